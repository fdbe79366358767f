/-
 Several texts of the proof: Region, MapS, NamedJ, NamedS.
-/
import Derived.Test.YtnjagecmhdagkaaGreatDoorPk00
import Derived.MapKept
import Derived.Laws.EntriesVeiled
set_option linter.unusedSimpArgs false
set_option linter.unusedVariables false
set_option maxRecDepth 3000
/-
  A region that draws its order, by an invariant: whatever operation comes next, it keeps what is said of the operations that are done.
-/
namespace Go.Proofs.YtnjagecmhdagkaaGreatDoor
open Go.RowKit
section
variable {P:Program} {ops:Array Oper} {md:Region.Mode} {Q:Exit→Act→World→Prop}
theorem count_set (l:List Bool):∀ (i:Nat),l[i]?=some false→(l.set i true).countP (!·)+1=l.countP (!·):=by
 induction l with
 | nil=>intro i h;simp at h
 | cons b l ih =>
  intro i h
  cases i with
  | zero =>
   simp at h
   subst h
   simp
  | succ i =>
   have:=ih i (by simpa using h)
   simp only [List.set_cons_succ,List.countP_cons]
   omega
theorem wpAny_inv {J:Array Bool→Act→World→Prop}
  (hstep:∀ done a w i,J done a w→i ∈ Region.ready md ops done→wpOp P ops Q i (J (done.setIfInBounds i true)) a w)
  (hend:∀ done a w,J done a w→Region.ready md ops done=[]→Q .normal a w) :
  ∀ (fuel:Nat) (done:Array Bool) (a:Act) (w:World),done.size=ops.size→done.toList.countP (!·)≤fuel→J done a w→wpAny P md ops Q fuel done a w:=by
 intro fuel
 induction fuel with
 | zero =>
  intro done a w hs hc h
  have hr:Region.ready md ops done=[]:=by
   rw [List.eq_nil_iff_forall_not_mem]
   intro i hi
   have h1:=(mem_ready.1 hi).1
   have hlt:i < ops.size:=by
    have:i ∈ List.range ops.size:=(List.mem_filter.1 hi).1
    simpa using this
   have h2:done.toList[i]?=some false:=by
    have:i < done.size:=by omega
    simp [Array.getD,this] at h1
    simp [this,h1]
   have:=count_set _ i h2
   omega
  exact ⟨hr,hend _ _ _ h hr⟩
 | succ fuel ih =>
  intro done a w hs hc h
  refine ⟨hend _ _ _ h,fun i hi=>?_⟩
  have h1:=(mem_ready.1 hi).1
  have hlt:i < ops.size:=by
   have:i ∈ List.range ops.size:=(List.mem_filter.1 hi).1
   simpa using this
  have h2:done.toList[i]?=some false:=by
   have:i < done.size:=by omega
   simp [Array.getD,this] at h1
   simp [this,h1]
  have h3:=count_set _ i h2
  refine wpOp_mono (fun a' w' h'=>ih _ a' w' (by simpa using hs) ?_ h') (hstep done a w i h hi)
  rw [Array.toList_setIfInBounds]
  omega
theorem region_inv {id:Nat} {a:Act} {w:World} {l:List Oper} {J:Array Bool→Act→World→Prop} (hm:P.follows .mixedOrders=true)
  (hstart:J (Array.replicate l.length false) a { w with drawn:=w.drawn+1 })
  (hstep:∀ done a w i,J done a w→i ∈ Region.ready .any l.toArray done→wpOp P l.toArray Q i (J (done.setIfInBounds i true)) a w)
  (hend:∀ done a w,J done a w→Region.ready .any l.toArray done=[]→Q .normal a w):(Code.region id l.toArray true).wp P Q a w:=by
 refine wp_region_any hm (wpAny_inv hstep hend _ _ _ _ (by simp) (Nat.le_trans List.countP_le_length (by simp)) (by simpa using hstart))
def backB (l:List Oper):Bool:=(List.range l.length).all fun i=>((l.toArray[i]?).map fun o=>o.after.all fun e=>!Region.binds .any e || decide (e.on < i)).getD false
theorem all_done {l:List Oper} (hb:backB l=true) {done:Array Bool} (hs:done.size=l.length) (hr:Region.ready .any l.toArray done=[]):∀ i,i < l.length→done.getD i false=true:=by
 intro i
 induction i using Nat.strongRecOn with
 | ind i ih =>
  intro hi
  apply Classical.byContradiction
  intro hn
  have h1:done.getD i true=false:=by
   have:i < done.size:=by omega
   simp [Array.getD,this] at hn ⊢
   exact hn
  have h2:i ∈ Region.ready .any l.toArray done:=by
   rw [mem_ready]
   have ho:l.toArray[i]?=some (l[i]'hi):=by simp [hi]
   refine ⟨h1,_,ho,fun e he hbd=>?_⟩
   have h3:=(List.all_eq_true.1 hb) i (by simpa using hi)
   rw [ho] at h3
   simp only [Option.map_some,Option.getD_some,Array.all_eq_true_iff_forall_mem,decide_eq_true_eq] at h3
   have h4:=h3 e he
   simp only [hbd,Bool.not_true,Bool.false_or,decide_eq_true_eq] at h4
   exact ih e.on h4 (by omega)
  rw [hr] at h2
  cases h2
theorem region_all {id:Nat} {a:Act} {w:World} {l:List Oper} {J:Array Bool→Act→World→Prop} (hm:P.follows .mixedOrders=true) (hb:backB l=true) (hsz:∀ done a w,J done a w→done.size=l.length)
  (hstart:J (Array.replicate l.length false) a { w with drawn:=w.drawn+1 })
  (hstep:∀ done a w i,J done a w→i ∈ Region.ready .any l.toArray done→wpOp P l.toArray Q i (J (done.setIfInBounds i true)) a w)
  (hend:∀ done a w,J done a w→(∀ i,i < l.length→done.getD i false=true)→Q .normal a w):(Code.region id l.toArray true).wp P Q a w :=
 region_inv hm hstart hstep fun done a w hJ hr=>hend done a w hJ (all_done hb (hsz _ _ _ hJ) hr)
theorem wpOp_at {i:Nat} {o:Oper} {K:Act→World→Prop} {a:Act} {w:World} (h:ops[i]?=some o) (hg:o.guard=none) (hw:o.wp P a w K Q):wpOp P ops Q i K a w:=by
 unfold wpOp
 rw [h]
 simp only [Region.wanted,hg]
 exact Or.inl hw
def depB (ops:Array Oper) (i j:Nat):Bool:=((ops[i]?).map fun o=>o.after.any fun e=>Region.binds .any e && e.on == j).getD false
theorem ready_dep {i j:Nat} {done:Array Bool} (hr:i ∈ Region.ready .any ops done) (h:depB ops i j=true):done.getD j false=true:=by
 obtain ⟨_,o,ho,hd⟩:=mem_ready.1 hr
 unfold depB at h
 rw [ho] at h
 simp only [Option.map_some,Option.getD_some] at h
 rw [← Array.any_toList,List.any_eq_true] at h
 obtain ⟨e,he,h⟩:=h
 simp only [Bool.and_eq_true,beq_iff_eq] at h
 obtain ⟨hb,rfl⟩:=h
 exact hd e (by simpa using he) hb
end
end Go.Proofs.YtnjagecmhdagkaaGreatDoor
namespace Go.Proofs.YtnjagecmhdagkaaGreatDoor
open Go.RowKit Go.MapKept
theorem ba_eq {a b:ByteArray} (h:(a == b)=true):a=b:=by
 obtain ⟨x⟩:=a
 obtain ⟨y⟩:=b
 have h2:(x == y)=true:=h
 have h3:x=y:=by simpa using h2
 rw [h3]
theorem ba_refl (a:ByteArray):(a == a)=true:=by
 obtain ⟨x⟩:=a
 show (x == x)=true
 simp
def keyIs (v:Value) (k:ByteArray):Bool:=match v with | .string s=>k == s | _=>false
def lookI:List MapEntry→ByteArray→Nat→Option (Nat × Value)
 | [],_,_=>none
 | e::es,k,i=>if keyIs e.key k then some (i,e.val) else lookI es k (i+1)
def look:List MapEntry→ByteArray→Option Value
 | [],_=>none
 | e::es,k=>if keyIs e.key k then some e.val else look es k
theorem lookI_look (es:List MapEntry) (k:ByteArray):∀ i,(lookI es k i).map (·.2)=look es k:=by
 induction es with
 | nil=>intro i;rfl
 | cons e es ih=>intro i;unfold lookI look;split <;> simp [ih]
theorem look_push (es:List MapEntry) (e:MapEntry) (k:ByteArray):look (es++[e]) k=(look es k).or (if keyIs e.key k then some e.val else none):=by
 induction es with
 | nil=>simp [look]
 | cons x es ih=>simp only [List.cons_append,look,ih];split <;> simp
def StrKeys (es:List MapEntry):Prop:=∀ e ∈ es,∃ s,e.key=.string s
theorem findNow_str (k:ByteArray) (es:List MapEntry):∀ i,StrKeys es→Instr.findNow .string (.string k) es i=some (lookI es k i):=by
 induction es with
 | nil=>intro i _;rfl
 | cons e es ih =>
  intro i h
  obtain ⟨s,hs⟩:=h e (by simp)
  have:=ih (i+1) (fun x hx=>h x (by simp [hx]))
  have hn:Instr.sameNow .string (.string k) e.key=some (keyIs e.key k):=by rw [hs];rfl
  unfold Instr.findNow lookI
  rw [hn]
  cases keyIs e.key k with
  | true=>rfl
  | false=>simpa using this
section
variable {P:Program} {w:World} {r clock:Nat} {es:Array MapEntry} {t kt et:TypeId}
theorem run_find_str (hk:P.underlying kt=some .string) (k:ByteArray) (hs:StrKeys es.toList):(Instr.findKey kt (.string k) es.toList).run P w=.ok (lookI es.toList k 0) w:=run_findKey hk (findNow_str k es.toList 0 hs)
theorem run_update_new (ht:P.underlying t=some (.map kt et)) (hk:P.underlying kt=some .string) (k:ByteArray) (v:Value) (hb:w.heap[r]?=some (.map es clock)) (hs:StrKeys es.toList) (hl:look es.toList k=none) :
  (Instr.mapUpdate t (.map (some r)) (.string k) v).run P w=.ok () { w with heap:=w.heap.setIfInBounds r (.map (es.push { key:=.string k,val:=v,born:=clock }) (clock+1)) }:=by
 have hf:lookI es.toList k 0=none:=by
  have:=lookI_look es.toList k 0
  rw [hl] at this
  simpa using this
 unfold Instr.mapUpdate
 simp only [Sem.run_bind,run_underlying ht,Result.andThen_ok,Go.MapKept.run_getObj_map hb,run_checkKey hk (show IsKey .string (.string k) by simp [IsKey]),run_find_str hk k hs,hf,run_setObj_map _ hb]
theorem run_lookup_str (ht:P.underlying t=some (.map kt et)) (hk:P.underlying kt=some .string) (k:ByteArray) (z:Value) (hz:∀ w,(zeroValue et).run P w=.ok z w) (hb:w.heap[r]?=some (.map es clock)) (hs:StrKeys es.toList) :
  (Instr.lookup t (.map (some r)) (.string k) true).run P w=.ok (.tuple #[(look es.toList k).getD z,.bool (look es.toList k).isSome]) w:=by
 have hf:=lookI_look es.toList k 0
 unfold Instr.lookup
 simp only [Sem.run_bind,run_underlying ht,Result.andThen_ok,Go.MapKept.run_getObj_map hb,Sem.run_pure,run_checkKey hk (show IsKey .string (.string k) by simp [IsKey]),run_find_str hk k hs]
 cases h:lookI es.toList k 0 with
 | none =>
  rw [h] at hf
  simp only [Option.map_none] at hf
  rw [← hf]
  simp [hz]
 | some x =>
  rw [h] at hf
  simp only [Option.map_some] at hf
  rw [← hf]
  simp
end
end Go.Proofs.YtnjagecmhdagkaaGreatDoor
namespace Go.Proofs.YtnjagecmhdagkaaGreatDoor
open Go.RowKit Go.MapKept
theorem TellAll.two {lo:Nat} {w:World} {a b:Value} {p q:Int→Bool} (ha:Tells lo w a p) (hb:Tells lo w b q):TellAll lo w [a,b] [p,q]:=by
 refine ⟨rfl,fun i v r hv hr=>?_⟩
 match i,hv,hr with
 | 0,hv,hr=>simp at hv hr;subst hv hr;exact ha
 | 1,hv,hr=>simp at hv hr;subst hv hr;exact hb
 | i+2,hv,_=>simp at hv
theorem TellAll.three {lo:Nat} {w:World} {a b c:Value} {p q r:Int→Bool} (ha:Tells lo w a p) (hb:Tells lo w b q) (hc:Tells lo w c r):TellAll lo w [a,b,c] [p,q,r]:=by
 refine ⟨rfl,fun i v r hv hr=>?_⟩
 match i,hv,hr with
 | 0,hv,hr=>simp at hv hr;subst hv hr;exact ha
 | 1,hv,hr=>simp at hv hr;subst hv hr;exact hb
 | 2,hv,hr=>simp at hv hr;subst hv hr;exact hc
 | i+3,hv,_=>simp at hv
theorem some_new (cs:Array Value) (ps:List (Int→Bool)) (lo g n cap:Nat) (w:World) (ty:TypeId) (hg:g=w.heap.size) (hlo:lo≤w.heap.size) (hn:n=cs.size) (hl:cs.size≤1000000) (hT:TellAll lo w cs.toList ps) :
  Calls Tryz.prog 112 #[.slice (some ⟨g,0,none⟩) n cap] (w.alloc (.cells cs ty)) (NewTellIn lo (someP ps) (w.alloc (.cells cs ty))) :=
 some_any cs.toList ps lo g 0 n cap _ (by simpa using hl) (by simpa using hn) (by omega) (by simp;omega) (by have:=rd_new w cs ty cs.size g rfl hg;simpa using this) (hT.grows ((Grows.refl _).alloc _))
inductive Sp where
 | none
 | tell (p:Int→Bool)
 | row (ps:List (Int→Bool))
def SpOk (lo:Nat) (w:World):Sp→Value→Prop
 | .none,_=>True
 | .tell p,v=>Tells lo w v p
 | .row ps,v=>∃ (g n:Nat) (vs:List Value),v=.slice (some ⟨g,0,none⟩) n n∧n=vs.length∧lo≤g∧n≤1000000∧Rd w 1 (some ⟨g,0,none⟩) vs.length vs∧TellAll lo w vs ps
theorem SpOk.ext {lo:Nat} {w w':World} {s:Sp} {v:Value} (h:SpOk lo w s v) (hg:Ext lo w w'):SpOk lo w' s v:=by
 cases s with
 | none=>trivial
 | tell p=>exact Tells.ext h hg
 | row ps =>
  obtain ⟨g,n,vs,h1,h2,h3,h4,h5,h6⟩:=h
  exact ⟨g,n,vs,h1,h2,h3,h4,h5.ext h3 hg,h6.ext hg⟩
def dsN:Nat→Option Nat
 | 0=>some 15
 | 1=>some 16
 | 3=>some 17
 | 5=>some 18
 | 7=>some 19
 | 9=>some 20
 | 11=>some 21
 | 12=>some 22
 | 13=>some 23
 | 14=>some 24
 | 16=>some 25
 | 17=>some 26
 | 18=>some 27
 | 19=>some 28
 | 20=>some 29
 | 22=>some 30
 | 23=>some 31
 | 24=>some 32
 | 25=>some 33
 | 27=>some 34
 | 28=>some 35
 | 29=>some 36
 | 30=>some 37
 | 32=>some 38
 | 33=>some 39
 | 34=>some 40
 | 35=>some 41
 | 37=>some 42
 | 39=>some 43
 | 41=>some 44
 | 42=>some 0
 | _=>none
def spN:Nat→Sp
 | 1=>.tell (spanP 97 122)
 | 3=>.tell (spanP 65 90)
 | 5=>.tell (spanP 48 57)
 | 7=>.tell (someP [(spanP 97 122),(spanP 65 90),(spanP 48 57)])
 | 9=>.tell (spanP 33 126)
 | 11=>.tell (spanP 97 122)
 | 12=>.tell (spanP 65 90)
 | 13=>.row [(spanP 97 122),(spanP 65 90)]
 | 14=>.tell (someP [(spanP 97 122),(spanP 65 90)])
 | 16=>.tell (spanP 48 57)
 | 17=>.tell (spanP 97 102)
 | 18=>.tell (spanP 65 70)
 | 19=>.row [(spanP 48 57),(spanP 97 102),(spanP 65 70)]
 | 20=>.tell (someP [(spanP 48 57),(spanP 97 102),(spanP 65 70)])
 | 22=>.tell (spanP 9 13)
 | 23=>.tell (spanP 32 32)
 | 24=>.row [(spanP 9 13),(spanP 32 32)]
 | 25=>.tell (someP [(spanP 9 13),(spanP 32 32)])
 | 27=>.tell (spanP 9 9)
 | 28=>.tell (spanP 32 32)
 | 29=>.row [(spanP 9 9),(spanP 32 32)]
 | 30=>.tell (someP [(spanP 9 9),(spanP 32 32)])
 | 32=>.tell (spanP 0 31)
 | 33=>.tell (spanP 127 127)
 | 34=>.row [(spanP 0 31),(spanP 127 127)]
 | 35=>.tell (someP [(spanP 0 31),(spanP 127 127)])
 | 37=>.tell (spanP 32 126)
 | 39=>.tell fun c=>(spanP 33 126) c && !((someP [(spanP 97 122),(spanP 65 90),(spanP 48 57)]) c)
 | _=>.none
def clsL:List (ByteArray × Nat × (Int→Bool)) :=
 [(⟨#[108,111,119,101,114]⟩,2,(spanP 97 122)),
  (⟨#[117,112,112,101,114]⟩,4,(spanP 65 90)),
  (⟨#[100,105,103,105,116]⟩,6,(spanP 48 57)),
  (⟨#[97,108,110,117,109]⟩,8,(someP [(spanP 97 122),(spanP 65 90),(spanP 48 57)])),
  (⟨#[103,114,97,112,104]⟩,10,(spanP 33 126)),
  (⟨#[97,108,112,104,97]⟩,15,(someP [(spanP 97 122),(spanP 65 90)])),
  (⟨#[120,100,105,103,105,116]⟩,21,(someP [(spanP 48 57),(spanP 97 102),(spanP 65 70)])),
  (⟨#[115,112,97,99,101]⟩,26,(someP [(spanP 9 13),(spanP 32 32)])),
  (⟨#[98,108,97,110,107]⟩,31,(someP [(spanP 9 9),(spanP 32 32)])),
  (⟨#[99,110,116,114,108]⟩,36,(someP [(spanP 0 31),(spanP 127 127)])),
  (⟨#[112,114,105,110,116]⟩,38,(spanP 32 126)),
  (⟨#[112,117,110,99,116]⟩,40,(fun c=>(spanP 33 126) c && !((someP [(spanP 97 122),(spanP 65 90),(spanP 48 57)]) c)))]
def invN:Nat→Nat
 | 15=>0
 | 16=>1
 | 17=>3
 | 18=>5
 | 19=>7
 | 20=>9
 | 21=>11
 | 22=>12
 | 23=>13
 | 24=>14
 | 25=>16
 | 26=>17
 | 27=>18
 | 28=>19
 | 29=>20
 | 30=>22
 | 31=>23
 | 32=>24
 | 33=>25
 | 34=>27
 | 35=>28
 | 36=>29
 | 37=>30
 | 38=>32
 | 39=>33
 | 40=>34
 | 41=>35
 | 42=>37
 | 43=>39
 | 44=>41
 | _=>42
theorem dsN_inv {i d:Nat} (h:dsN i=some d):invN d=i:=by
 unfold dsN at h
 split at h <;> first | (injection h with h;subst h;rfl) | cases h
theorem dsN_inj {i j d:Nat} (h:dsN i=some d) (k:dsN j=some d):i=j:=(dsN_inv h).symm.trans (dsN_inv k)
def clsOf (k:ByteArray):Option (Nat × (Int→Bool)):=(clsL.find? fun c=>c.1 == k).map (·.2)
def MapIn (lo:Nat) (done:Array Bool) (w:World) (es:List MapEntry):Prop :=
 ∀ k,match clsOf k with
  | none=>look es k=none
  | some (i,p)=>if done.getD i false=true then ∃ v,look es k=some v∧Tells lo w v p else look es k=none
structure NJ (lo:Nat) (w0:World) (a0:Act) (done:Array Bool) (a:Act) (w:World):Prop where
 size:done.size=43
 tmps:a.tmps.size=45
 inp:∀ t:Nat,1≤t→t≤5→a.eval (.tmp t)=a0.eval (.tmp t)
 defers:a.defers=a0.defers
 low:lo≤w0.heap.size
 grows:Grows w0 w
 ext:Ext lo w0 w
 sp:∀ i d:Nat,dsN i=some d→done.getD i false=true→SpOk lo w (spN i) (a.eval (.tmp d))
 map:done.getD 0 false=true→∃ r es clk,a.eval (.tmp 15)=.map (some r)∧w0.heap.size≤r∧w.heap[r]?=some (.map es clk)∧StrKeys es.toList∧MapIn lo done w es.toList
 none_:done.getD 0 false=false→∀ c ∈ clsL,done.getD c.2.1 false=false
 late:done.getD 0 false=false→done.getD 41 false=false∧done.getD 42 false=false
 last:done.getD 41 false=true→a.eval (.tmp 44)=a.eval (.tmp 15)
 back:done.getD 42 false=true→a.eval (.tmp 0)=a.eval (.tmp 15)
theorem eval_put (a:Act) (d t:Nat) (v:Value) (hd:d < a.tmps.size):(a.put (some d) v).eval (.tmp t)=if d=t then v else a.eval (.tmp t):=by
 simp only [Act.put,Act.eval,Array.getD_eq_getD_getElem?,Array.getElem?_setIfInBounds]
 by_cases h:d=t
 ·subst h;simp [hd]
 ·simp [h]
theorem done_set {done:Array Bool} {i j:Nat} (hi:i < done.size):(done.setIfInBounds i true).getD j false=if i=j then true else done.getD j false:=by
 simp only [Array.getD_eq_getD_getElem?,Array.getElem?_setIfInBounds]
 by_cases h:i=j
 ·subst h;simp [hi]
 ·simp [h]
section
variable {lo:Nat} {w0:World} {a0:Act} {done:Array Bool} {a:Act} {w w':World}
theorem NJ.maps (hJ:NJ lo w0 a0 done a w) (h0:done.getD 0 false=true) (hg:Grows w w') {done':Array Bool} (hd:∀ c ∈ clsL,done'.getD c.2.1 false=done.getD c.2.1 false):∃ r es clk,a.eval (.tmp 15)=.map (some r)∧w0.heap.size≤r∧w'.heap[r]?=some (.map es clk)∧StrKeys es.toList∧MapIn lo done' w' es.toList:=by
 obtain ⟨r,es,clk,h1,h2,h3,h4,h5⟩:=hJ.map h0
 refine ⟨r,es,clk,h1,h2,?_,h4,fun k=>?_⟩
 ·obtain ⟨m,rfl⟩:=hg
  rw [heap_more _ _ _ (Array.getElem?_eq_some_iff.1 h3).1];exact h3
 ·have h6:=h5 k
  cases hc:clsOf k with
  | none=>rw [hc] at h6;exact h6
  | some x =>
   obtain ⟨i,p⟩:=x
   rw [hc] at h6
   have hm:done'.getD i false=done.getD i false:=by
    unfold clsOf at hc
    rw [Option.map_eq_some_iff] at hc
    obtain ⟨c,hc1,hc2⟩:=hc
    have:=hd c (List.mem_of_find?_eq_some hc1)
    rw [hc2] at this
    exact this
   simp only [hm] at h6 ⊢
   split
   ·rename_i hh
    rw [if_pos hh] at h6
    obtain ⟨v,hv1,hv2⟩:=h6
    exact ⟨v,hv1,hv2.grows hg⟩
   ·rename_i hh
    rw [if_neg hh] at h6
    exact h6
theorem NJ.put (hJ:NJ lo w0 a0 done a w) (i d:Nat) (v:Value) (hd:dsN i=some d) (hr:16≤d∧d≤43) (hne:∀ c ∈ clsL,c.2.1≠i) (hi:i < 43) (hw:Grows w w') (hv:SpOk lo w' (spN i) v):NJ lo w0 a0 (done.setIfInBounds i true) (a.put (some d) v) w':=by
 have hsz:=hJ.size
 have htm:=hJ.tmps
 have hev:∀ t,t≠d→(a.put (some d) v).eval (.tmp t)=a.eval (.tmp t):=fun t ht=>by rw [eval_put _ _ _ _ (by omega),if_neg (Ne.symm ht)]
 have h0:i≠0:=by rintro rfl;cases hd;omega
 have h41:i≠41:=by rintro rfl;cases hd;omega
 have h42:i≠42:=by rintro rfl;cases hd;omega
 refine ⟨by simp [hsz],by simp [Act.put,htm],fun t h1 h2=>(hev t (by have:=hr.1;omega)).trans (hJ.inp t h1 h2),hJ.defers,hJ.low,hJ.grows.trans hw,hJ.ext.trans (hw.ext lo),fun j e he hdn=>?_,fun h=>?_,fun h c hc=>?_,fun h=>?_,fun h=>?_,fun h=>?_⟩
 ·by_cases hij:i=j
  ·subst hij
   obtain rfl:d=e:=by rw [hd] at he;injection he
   rw [eval_put _ _ _ _ (by omega),if_pos rfl]
   exact hv
  ·rw [done_set (by omega),if_neg hij] at hdn
   have hde:e≠d:=by rintro rfl;exact hij (dsN_inj hd he)
   rw [hev e hde]
   exact (hJ.sp j e he hdn).ext (hw.ext lo)
 ·rw [done_set (by omega),if_neg h0] at h
  rw [hev 15 (by omega)]
  exact hJ.maps h hw fun c hc=>by rw [done_set (by omega),if_neg (Ne.symm (hne c hc))]
 ·rw [done_set (by omega),if_neg h0] at h
  rw [done_set (by omega),if_neg (Ne.symm (hne c hc))]
  exact hJ.none_ h c hc
 ·rw [done_set (by omega),if_neg h0] at h
  rw [done_set (by omega),if_neg h41,done_set (by omega),if_neg h42]
  exact hJ.late h
 ·rw [done_set (by omega),if_neg h41] at h
  rw [hev 44 (by omega),hev 15 (by omega)]
  exact hJ.last h
 ·rw [done_set (by omega),if_neg h42] at h
  rw [hev 0 (by omega),hev 15 (by omega)]
  exact hJ.back h
end
end Go.Proofs.YtnjagecmhdagkaaGreatDoor
namespace Go.Proofs.YtnjagecmhdagkaaGreatDoor
open Go.RowKit Go.MapKept
section
variable {lo:Nat} {w0:World} {a0:Act} {done:Array Bool} {a:Act} {w:World} {ops:Array Oper} {Q:Exit→Act→World→Prop} {o:Oper}
theorem NJ.move (hJ:NJ lo w0 a0 done a w) {j:Nat} (_hr:j ∈ Region.ready .any ops done) (i d s:Nat) (p:Int→Bool) (ho:ops[i]?=some o) (hd:o.dst=some d) (hg:o.guard=none) (hop:o.op=.move (.tmp s)) (hne:∀ c ∈ clsL,c.2.1≠i) (hds:dsN i=some d) (hsp:spN i=.tell p) (hn:16≤d∧d≤43∧1≤s∧s≤5∧i < 43) (hs:Tells lo w0 (a0.eval (.tmp s)) p) :
  wpOp Tryz.prog ops Q i (NJ lo w0 a0 (done.setIfInBounds i true)) a w:=by
 refine wpOp_at ho hg ?_
 unfold Oper.wp
 simp only [execOp,hop,Sem.run_pure,Oper.upon]
 rw [hd]
 refine hJ.put i d _ hds ⟨hn.1,hn.2.1⟩ hne hn.2.2.2.2 (Grows.refl _) ?_
 rw [hsp,hJ.inp s hn.2.2.1 hn.2.2.2.1]
 exact hs.ext hJ.ext
theorem NJ.load (hJ:NJ lo w0 a0 done a w) {j:Nat} (_hr:j ∈ Region.ready .any ops done) (i d s:Nat) (p:Int→Bool) {g:Nat} {v:Value} (ho:ops[i]?=some o) (hd:o.dst=some d) (hg:o.guard=none) (hop:o.op=.load 160 (.tmp s)) (hne:∀ c ∈ clsL,c.2.1≠i) (hds:dsN i=some d) (hsp:spN i=.tell p) (hn:16≤d∧d≤43∧1≤s∧s≤5∧i < 43) (hs:a0.eval (.tmp s)=.pointer (some ⟨g,0,none⟩)) (hc:w0.cell? ⟨g,0,none⟩=some v) (hl:lo≤g∧Tells lo w0 v p) :
  wpOp Tryz.prog ops Q i (NJ lo w0 a0 (done.setIfInBounds i true)) a w:=by
 have hc':=hJ.ext.cell hl.1 hc
 have he:=hJ.inp s hn.2.2.1 hn.2.2.2.1
 rw [hs] at he
 obtain ⟨f,k,rfl⟩:=hl.2.form
 refine wpOp_at ho hg ?_
 unfold Oper.wp
 have he2:a.tmps[s]?.getD undef=.pointer (some ⟨g,0,none⟩):=by simpa [Act.eval] using he
 simp [execOp,hop,go_sem,he2,hc',Oper.upon]
 rw [hd]
 refine hJ.put i d _ hds ⟨hn.1,hn.2.1⟩ hne hn.2.2.2.2 (Grows.refl _) ?_
 rw [hsp]
 exact hl.2.ext hJ.ext
theorem NJ.span (hJ:NJ lo w0 a0 done a w) {j:Nat} (_hr:j ∈ Region.ready .any ops done) (i d:Nat) (x y:Int) (ho:ops[i]?=some o) (hd:o.dst=some d) (hg:o.guard=none) (hop:o.op=.call { callee:=.value (.func 102),args:=#[.const (.int .u8 x),.const (.int .u8 y)],argTypes:=#[5,5] }) (hn:(∀ c ∈ clsL,c.2.1≠i)∧dsN i=some d∧16≤d∧d≤43∧i < 43) (hsp:spN i=.tell (spanP x y)) :
  wpOp Tryz.prog ops Q i (NJ lo w0 a0 (done.setIfInBounds i true)) a w:=by
 have hent:=enters_of Tryz.func102 (by kernel_rfl) (by kernel_rfl) #[.int .u8 x,.int .u8 y] w
 obtain ⟨h1,h2,h3,h4,h5⟩:=hn
 refine wpOp_at ho hg ?_
 unfold Oper.wp
 simp [execOp,hop,resolve,invoke,hent,Act.eval,Oper.upon]
 refine (span_any x y w).mono ?_
 rintro e w' ⟨v,rfl,hv,hgr⟩
 simp only []
 rw [hd]
 refine hJ.put i d v h2 ⟨h3,h4⟩ h1 h5 hgr ?_
 rw [hsp]
 exact hv.mono (Nat.le_trans hJ.low hJ.grows.below.size)
theorem NJ.row2 (hJ:NJ lo w0 a0 done a w) {j:Nat} (hr:j ∈ Region.ready .any ops done) (i d:Nat) (i1 d1:Nat) (p1:Int→Bool) (i2 d2:Nat) (p2:Int→Bool) (ho:ops[i]?=some o) (hd:o.dst=some d) (hg:o.guard=none) (hop:o.op=.buildSlice 202 2 #[(0,.tmp d1),(1,.tmp d2)]) (hn:(∀ c ∈ clsL,c.2.1≠i)∧dsN i=some d∧16≤d∧d≤43∧i < 43∧i=j) (hsp:spN i=.row [p1,p2])
  (h1:dsN i1=some d1) (k1:spN i1=.tell p1) (b1:depB ops i i1=true) (h2:dsN i2=some d2) (k2:spN i2=.tell p2) (b2:depB ops i i2=true) :
  wpOp Tryz.prog ops Q i (NJ lo w0 a0 (done.setIfInBounds i true)) a w:=by
 obtain ⟨n1,n2,n3,n4,n5,rfl⟩:=hn
 have t1:=hJ.sp i1 d1 h1 (ready_dep hr b1)
 have t2:=hJ.sp i2 d2 h2 (ready_dep hr b2)
 rw [k1] at t1
 rw [k2] at t2
 obtain ⟨f1,c1,e1⟩:=Tells.form t1
 obtain ⟨f2,c2,e2⟩:=Tells.form t2
 rw [e1] at t1
 rw [e2] at t2
 have q1:a.tmps[d1]?.getD undef=.func (.func f1) #[] c1:=by simpa [Act.eval] using e1
 have q2:a.tmps[d2]?.getD undef=.func (.func f2) #[] c2:=by simpa [Act.eval] using e2
 refine wpOp_at ho hg ?_
 unfold Oper.wp
 simp [execOp,hop,go_sem,q1,q2,Oper.upon,Act.eval]
 rw [hd]
 refine hJ.put i d (.slice (some ⟨w.heap.size,0,none⟩) 2 2) n2 ⟨n3,n4⟩ n1 n5 ((Grows.refl _).alloc _) ?_
 rw [hsp]
 exact ⟨w.heap.size,2,[.func (.func f1) #[] c1,.func (.func f2) #[] c2],rfl,rfl,Nat.le_trans hJ.low hJ.grows.below.size,by omega,rd_new w #[.func (.func f1) #[] c1,.func (.func f2) #[] c2] _ 2 _ rfl rfl,(TellAll.two t1 t2).grows ((Grows.refl _).alloc _)⟩
theorem NJ.row3 (hJ:NJ lo w0 a0 done a w) {j:Nat} (hr:j ∈ Region.ready .any ops done) (i d:Nat) (i1 d1:Nat) (p1:Int→Bool) (i2 d2:Nat) (p2:Int→Bool) (i3 d3:Nat) (p3:Int→Bool) (ho:ops[i]?=some o) (hd:o.dst=some d) (hg:o.guard=none) (hop:o.op=.buildSlice 202 3 #[(0,.tmp d1),(1,.tmp d2),(2,.tmp d3)]) (hn:(∀ c ∈ clsL,c.2.1≠i)∧dsN i=some d∧16≤d∧d≤43∧i < 43∧i=j) (hsp:spN i=.row [p1,p2,p3])
  (h1:dsN i1=some d1) (k1:spN i1=.tell p1) (b1:depB ops i i1=true) (h2:dsN i2=some d2) (k2:spN i2=.tell p2) (b2:depB ops i i2=true) (h3:dsN i3=some d3) (k3:spN i3=.tell p3) (b3:depB ops i i3=true) :
  wpOp Tryz.prog ops Q i (NJ lo w0 a0 (done.setIfInBounds i true)) a w:=by
 obtain ⟨n1,n2,n3,n4,n5,rfl⟩:=hn
 have t1:=hJ.sp i1 d1 h1 (ready_dep hr b1)
 have t2:=hJ.sp i2 d2 h2 (ready_dep hr b2)
 have t3:=hJ.sp i3 d3 h3 (ready_dep hr b3)
 rw [k1] at t1
 rw [k2] at t2
 rw [k3] at t3
 obtain ⟨f1,c1,e1⟩:=Tells.form t1
 obtain ⟨f2,c2,e2⟩:=Tells.form t2
 obtain ⟨f3,c3,e3⟩:=Tells.form t3
 rw [e1] at t1
 rw [e2] at t2
 rw [e3] at t3
 have q1:a.tmps[d1]?.getD undef=.func (.func f1) #[] c1:=by simpa [Act.eval] using e1
 have q2:a.tmps[d2]?.getD undef=.func (.func f2) #[] c2:=by simpa [Act.eval] using e2
 have q3:a.tmps[d3]?.getD undef=.func (.func f3) #[] c3:=by simpa [Act.eval] using e3
 refine wpOp_at ho hg ?_
 unfold Oper.wp
 simp [execOp,hop,go_sem,q1,q2,q3,Oper.upon,Act.eval]
 rw [hd]
 refine hJ.put i d (.slice (some ⟨w.heap.size,0,none⟩) 3 3) n2 ⟨n3,n4⟩ n1 n5 ((Grows.refl _).alloc _) ?_
 rw [hsp]
 exact ⟨w.heap.size,3,[.func (.func f1) #[] c1,.func (.func f2) #[] c2,.func (.func f3) #[] c3],rfl,rfl,Nat.le_trans hJ.low hJ.grows.below.size,by omega,rd_new w #[.func (.func f1) #[] c1,.func (.func f2) #[] c2,.func (.func f3) #[] c3] _ 3 _ rfl rfl,(TellAll.three t1 t2 t3).grows ((Grows.refl _).alloc _)⟩
theorem NJ.call_ (hJ:NJ lo w0 a0 done a w) {j:Nat} (hr:j ∈ Region.ready .any ops done) (i d i1 d1:Nat) (ps:List (Int→Bool)) (ho:ops[i]?=some o) (hd:o.dst=some d) (hg:o.guard=none) (hop:o.op=.call { callee:=.value (.func 112),args:=#[.tmp d1],argTypes:=#[202] }) (hn:(∀ c ∈ clsL,c.2.1≠i)∧dsN i=some d∧16≤d∧d≤43∧i < 43∧i=j∧dsN i1=some d1) (hsp:spN i=.tell (someP ps)) (k1:spN i1=.row ps) (b1:depB ops i i1=true) :
  wpOp Tryz.prog ops Q i (NJ lo w0 a0 (done.setIfInBounds i true)) a w:=by
 obtain ⟨n1,n2,n3,n4,n5,rfl,n6⟩:=hn
 have t1:=hJ.sp i1 d1 n6 (ready_dep hr b1)
 rw [k1] at t1
 obtain ⟨g,n,vs,e1,e2,e3,e4,e5,e6⟩:=t1
 have q1:a.tmps[d1]?.getD undef=.slice (some ⟨g,0,none⟩) n n:=by simpa [Act.eval] using e1
 have hent:=enters_of Tryz.func112 (by kernel_rfl) (by kernel_rfl) #[.slice (some ⟨g,0,none⟩) n n] w
 have hlo:=Nat.le_trans hJ.low hJ.grows.below.size
 refine wpOp_at ho hg ?_
 unfold Oper.wp
 simp [execOp,hop,resolve,invoke,hent,Act.eval,Oper.upon,q1]
 refine (some_any vs ps lo g 0 n n w (by omega) e2 e3 hlo e5 e6).mono ?_
 rintro e w' ⟨v,rfl,hv,hgr⟩
 simp only []
 rw [hd]
 refine hJ.put i d v n2 ⟨n3,n4⟩ n1 n5 hgr ?_
 rw [hsp]
 exact hv
theorem NJ.fn (hJ:NJ lo w0 a0 done a w) {j:Nat} (_hr:j ∈ Region.ready .any ops done) {g4 g5:Nat} {v4 v5:Value} {p4 p5:Int→Bool} (ho:ops[39]?=some o) (hd:o.dst=some 43) (hg:o.guard=none) (hop:o.op=.makeFunc (.func 113) #[] #[.tmp 5,.tmp 4]) (hsp:spN 39=.tell fun c=>p5 c && !(p4 c))
  (h4:a0.eval (.tmp 4)=.pointer (some ⟨g4,0,none⟩)) (h5:a0.eval (.tmp 5)=.pointer (some ⟨g5,0,none⟩)) (c4:w0.cell? ⟨g4,0,none⟩=some v4) (c5:w0.cell? ⟨g5,0,none⟩=some v5) (i4:lo≤g4∧Tells lo w0 v4 p4) (i5:lo≤g5∧Tells lo w0 v5 p5) :
  wpOp Tryz.prog ops Q 39 (NJ lo w0 a0 (done.setIfInBounds 39 true)) a w:=by
 have e4:=hJ.inp 4 (by omega) (by omega)
 have e5:=hJ.inp 5 (by omega) (by omega)
 rw [h4] at e4
 rw [h5] at e5
 have q4:a.tmps[4]?.getD undef=.pointer (some ⟨g4,0,none⟩):=by simpa [Act.eval] using e4
 have q5:a.tmps[5]?.getD undef=.pointer (some ⟨g5,0,none⟩):=by simpa [Act.eval] using e5
 obtain ⟨f4,k4,rfl⟩:=i4.2.form
 obtain ⟨f5,k5,rfl⟩:=i5.2.form
 refine wpOp_at ho hg ?_
 unfold Oper.wp
 simp [execOp,hop,go_sem,q4,q5,Oper.upon,Act.eval]
 rw [hd]
 refine hJ.put 39 43 _ rfl (by decide) (by decide) (by decide) (Grows.refl _) ?_
 rw [hsp]
 refine ⟨_,_,rfl,enters_of Tryz.func113 (by kernel_rfl) (by kernel_rfl),fun w' c hw h0 h1=>?_⟩
 exact punct_any f5 f4 k5 k4 p5 p4 c g5 g4 w' h0 h1 ((hJ.ext.trans hw).cell i5.1 c5) ((hJ.ext.trans hw).cell i4.1 c4) lo (i5.2.ext (hJ.ext.trans hw)) (i4.2.ext (hJ.ext.trans hw))
theorem NJ.base (hJ:NJ lo w0 a0 done a w) {w':World} (i d:Nat) (v:Value) (hd:dsN i=some d) (hr:d=0∨(6≤d∧d < 45)) (hi:i < 43) (hg:Grows w0 w') (hx:Ext lo w w') (hv:SpOk lo w' (spN i) v)
  (hmap:(done.setIfInBounds i true).getD 0 false=true→∃ r es clk,(a.put (some d) v).eval (.tmp 15)=.map (some r)∧w0.heap.size≤r∧w'.heap[r]?=some (.map es clk)∧StrKeys es.toList∧MapIn lo (done.setIfInBounds i true) w' es.toList)
  (hnone:(done.setIfInBounds i true).getD 0 false=false→∀ c ∈ clsL,(done.setIfInBounds i true).getD c.2.1 false=false)
  (hlate:(done.setIfInBounds i true).getD 0 false=false→(done.setIfInBounds i true).getD 41 false=false∧(done.setIfInBounds i true).getD 42 false=false)
  (hlast:(done.setIfInBounds i true).getD 41 false=true→(a.put (some d) v).eval (.tmp 44)=(a.put (some d) v).eval (.tmp 15))
  (hback:(done.setIfInBounds i true).getD 42 false=true→(a.put (some d) v).eval (.tmp 0)=(a.put (some d) v).eval (.tmp 15)):NJ lo w0 a0 (done.setIfInBounds i true) (a.put (some d) v) w':=by
 have hsz:=hJ.size
 have htm:=hJ.tmps
 have hev:∀ t:Nat,t≠d→(a.put (some d) v).eval (.tmp t)=a.eval (.tmp t):=fun t ht=>by rw [eval_put _ _ _ _ (by omega),if_neg (Ne.symm ht)]
 refine ⟨by simp [hsz],by simp [Act.put,htm],fun t h1 h2=>(hev t (by omega)).trans (hJ.inp t h1 h2),hJ.defers,hJ.low,hg,hJ.ext.trans hx,fun j e he hdn=>?_,hmap,hnone,hlate,hlast,hback⟩
 by_cases hij:i=j
 ·subst hij
  obtain rfl:d=e:=by rw [hd] at he;injection he
  rw [eval_put _ _ _ _ (by omega),if_pos rfl]
  exact hv
 ·rw [done_set (by omega),if_neg hij] at hdn
  have hde:e≠d:=by rintro rfl;exact hij (dsN_inj hd he)
  rw [hev e hde]
  exact (hJ.sp j e he hdn).ext hx
theorem NJ.undone (hJ:NJ lo w0 a0 done a w) {i:Nat} (hr:i ∈ Region.ready .any ops done) (hi:i < 43):done.getD i false=false:=by
 have h:=(mem_ready.1 hr).1
 have:=hJ.size
 simp only [Array.getD_eq_getD_getElem?] at h ⊢
 rw [Array.getElem?_eq_getElem (by omega)] at h ⊢
 exact h
theorem NJ.make (hJ:NJ lo w0 a0 done a w) (hr:0 ∈ Region.ready .any ops done) (ho:ops[0]?=some o) (hd:o.dst=some 15) (hg:o.guard=none) (hop:o.op=.makeMap 179 none) :
  wpOp Tryz.prog ops Q 0 (NJ lo w0 a0 (done.setIfInBounds 0 true)) a w:=by
 have hu:=hJ.undone hr (by omega)
 have hsz:=hJ.size
 have htm:=hJ.tmps
 have hno:=hJ.none_ hu
 refine wpOp_at ho hg ?_
 unfold Oper.wp
 simp [execOp,hop,Instr.makeMap,Oper.upon,Act.eval]
 rw [hd]
 have hgr:Grows w (w.alloc (.map #[] 0)):=(Grows.refl _).alloc _
 refine hJ.base 0 15 (.map (some w.heap.size)) rfl (by omega) (by omega) (hJ.grows.trans hgr) (hgr.ext lo) trivial (fun _=>?_) (fun h=>?_) (fun h=>?_) (fun h=>?_) (fun h=>?_)
 ·refine ⟨w.heap.size,#[],0,by rw [eval_put _ _ _ _ (by omega),if_pos rfl],hJ.grows.below.size,heap_alloc_new _ _,by intro e he;simp at he,fun k=>?_⟩
  cases hc:clsOf k with
  | none=>rfl
  | some x =>
   obtain ⟨i,p⟩:=x
   have hi:i≠0∧done.getD i false=false:=by
    unfold clsOf at hc
    rw [Option.map_eq_some_iff] at hc
    obtain ⟨c,hc1,hc2⟩:=hc
    have h1:=List.mem_of_find?_eq_some hc1
    have h2:=hno c h1
    rw [hc2] at h2
    refine ⟨?_,h2⟩
    rintro rfl
    have:∀ c ∈ clsL,c.2.1≠0:=by decide
    exact this c h1 (by rw [hc2])
   simp only [done_set (show 0 < done.size by omega),if_neg (Ne.symm hi.1),hi.2]
   rfl
 ·rw [done_set (by omega),if_pos rfl] at h;cases h
 ·rw [done_set (by omega),if_pos rfl] at h;cases h
 ·rw [done_set (by omega),if_neg (by omega),(hJ.late hu).1] at h;cases h
 ·rw [done_set (by omega),if_neg (by omega),(hJ.late hu).2] at h;cases h
theorem NJ.last_ (hJ:NJ lo w0 a0 done a w) (hr:41 ∈ Region.ready .any ops done) (ho:ops[41]?=some o) (hd:o.dst=some 44) (hg:o.guard=none) (hop:o.op=.move (.tmp 15)) (b0:depB ops 41 0=true) :
  wpOp Tryz.prog ops Q 41 (NJ lo w0 a0 (done.setIfInBounds 41 true)) a w:=by
 have h0:=ready_dep hr b0
 have hsz:=hJ.size
 have htm:=hJ.tmps
 refine wpOp_at ho hg ?_
 unfold Oper.wp
 simp only [execOp,hop,Sem.run_pure,Oper.upon]
 rw [hd]
 have hev:∀ t:Nat,t≠44→(a.put (some 44) (a.eval (.tmp 15))).eval (.tmp t)=a.eval (.tmp t):=fun t ht=>by rw [eval_put _ _ _ _ (by omega),if_neg (Ne.symm ht)]
 have hd0:(done.setIfInBounds 41 true).getD 0 false=true:=by rw [done_set (by omega),if_neg (by omega)];exact h0
 refine hJ.base 41 44 _ rfl (by omega) (by omega) hJ.grows (Ext.refl _ _) trivial (fun _=>?_) (fun h=>?_) (fun h=>?_) (fun _=>?_) (fun h=>?_)
 ·rw [hev 15 (by omega)]
  exact hJ.maps h0 (Grows.refl _) fun c hc=>by
   have:∀ c ∈ clsL,(41:Nat)≠c.2.1:=by decide
   rw [done_set (by omega),if_neg (this c hc)]
 ·rw [hd0] at h;cases h
 ·rw [hd0] at h;cases h
 ·rw [eval_put _ _ _ _ (by omega),if_pos rfl,hev 15 (by omega)]
 ·rw [done_set (by omega),if_neg (by omega)] at h
  rw [hev 0 (by omega),hev 15 (by omega)]
  exact hJ.back h
theorem NJ.back_ (hJ:NJ lo w0 a0 done a w) (hr:42 ∈ Region.ready .any ops done) (ho:ops[42]?=some o) (hd:o.dst=some 0) (hg:o.guard=none) (hop:o.op=.assign (.tmp 44)) (b0:depB ops 42 0=true) (b1:depB ops 42 41=true) :
  wpOp Tryz.prog ops Q 42 (NJ lo w0 a0 (done.setIfInBounds 42 true)) a w:=by
 have h0:=ready_dep hr b0
 have h1:=ready_dep hr b1
 have hsz:=hJ.size
 have htm:=hJ.tmps
 refine wpOp_at ho hg ?_
 unfold Oper.wp
 simp only [execOp,hop,Sem.run_pure,Oper.upon]
 rw [hd]
 have hev:∀ t:Nat,t≠0→(a.put (some 0) (a.eval (.tmp 44))).eval (.tmp t)=a.eval (.tmp t):=fun t ht=>by rw [eval_put _ _ _ _ (by omega),if_neg (Ne.symm ht)]
 have hd0:(done.setIfInBounds 42 true).getD 0 false=true:=by rw [done_set (by omega),if_neg (by omega)];exact h0
 refine hJ.base 42 0 _ rfl (by omega) (by omega) hJ.grows (Ext.refl _ _) trivial (fun _=>?_) (fun h=>?_) (fun h=>?_) (fun h=>?_) (fun _=>?_)
 ·rw [hev 15 (by omega)]
  exact hJ.maps h0 (Grows.refl _) fun c hc=>by
   have:∀ c ∈ clsL,(42:Nat)≠c.2.1:=by decide
   rw [done_set (by omega),if_neg (this c hc)]
 ·rw [hd0] at h;cases h
 ·rw [hd0] at h;cases h
 ·rw [hev 44 (by omega),hev 15 (by omega)]
  exact hJ.last h1
 ·rw [eval_put _ _ _ _ (by omega),if_pos rfl,hev 15 (by omega)]
  exact hJ.last h1
theorem cls_key {k:ByteArray} {i:Nat} {p:Int→Bool} (h:clsOf k=some (i,p)):∃ c ∈ clsL,c.1=k∧c.2=(i,p):=by
 unfold clsOf at h
 rw [Option.map_eq_some_iff] at h
 obtain ⟨c,h1,h2⟩:=h
 exact ⟨c,List.mem_of_find?_eq_some h1,ba_eq (by simpa using List.find?_some h1),h2⟩
theorem cls_inj {k k':ByteArray} {i:Nat} {p p':Int→Bool} (h:clsOf k=some (i,p)) (h':clsOf k'=some (i,p')):k=k':=by
 obtain ⟨c,h1,rfl,h3⟩:=cls_key h
 obtain ⟨c',h1',rfl,h3'⟩:=cls_key h'
 have key:∀ c ∈ clsL,∀ c' ∈ clsL,c.2.1=c'.2.1→c.1=c'.1:=by decide
 exact key c h1 c' h1' (by rw [h3,h3'])
theorem NJ.ins (hJ:NJ lo w0 a0 done a w) {j:Nat} (hr:j ∈ Region.ready .any ops done) (i:Nat) (k:ByteArray) (dep slot:Nat) (p:Int→Bool) (ho:ops[i]?=some o) (hd:o.dst=none) (hg:o.guard=none) (hop:o.op=.insert 179 (.tmp 15) (.const (.string k)) (.tmp slot)) (hn:dsN i=none∧i≠0∧i≠41∧i≠42∧i < 43∧i=j) (hds:dsN dep=some slot) (hsp:spN dep=.tell p) (b0:depB ops i 0=true) (b1:depB ops i dep=true) (hcl:clsOf k=some (i,p)) :
  wpOp Tryz.prog ops Q i (NJ lo w0 a0 (done.setIfInBounds i true)) a w:=by
 obtain ⟨n1,n2,n3,n4,n5,rfl⟩:=hn
 have h0:=ready_dep hr b0
 have hu:=hJ.undone hr n5
 have hsz:=hJ.size
 have t1:=hJ.sp dep slot hds (ready_dep hr b1)
 rw [hsp] at t1
 obtain ⟨r,es,clk,e1,e2,e3,e4,e5⟩:=hJ.map h0
 have q1:a.tmps[15]?.getD undef=.map (some r):=by simpa [Act.eval] using e1
 have hlk:look es.toList k=none:=by
  have:=e5 k
  rw [hcl] at this
  simpa [hu] using this
 refine wpOp_at ho hg ?_
 unfold Oper.wp
 simp [execOp,hop,Act.eval,q1,Oper.upon,run_update_new Tryz.underlying179 Tryz.underlying9 k _ e3 e4 hlk]
 rw [hd]
 have hlt:r < w.heap.size:=(Array.getElem?_eq_some_iff.1 e3).1
 have hw0:=hJ.grows.below
 have hoth:∀ b,b≠r→(w.heap.setIfInBounds r (Obj.map (es.push { key:=Value.string k,val:=a.tmps[slot]?.getD undef,born:=clk }) (clk+1)))[b]?=w.heap[b]?:=fun b hb=>by simp [Ne.symm hb]
 have hx:Ext lo w { heap:=w.heap.setIfInBounds r (Obj.map (es.push { key:=Value.string k,val:=a.tmps[slot]?.getD undef,born:=clk }) (clk+1)),tape:=w.tape,drawn:=w.drawn,os:=w.os,output:=w.output }:=fun b c t f _ hb=>by
  have:b≠r:=by rintro rfl;rw [e3] at hb;cases hb
  exact (hoth b this).trans hb
 have hg2:Grows w0 { heap:=w.heap.setIfInBounds r (Obj.map (es.push { key:=Value.string k,val:=a.tmps[slot]?.getD undef,born:=clk }) (clk+1)),tape:=w.tape,drawn:=w.drawn,os:=w.os,output:=w.output } :=
  Grows.of_below ⟨hw0.os,hw0.tape,hw0.output,by simpa using hw0.size,fun b hb=>(hoth b (by omega)).trans (hw0.block b hb)⟩
 have hv:a.tmps[slot]?.getD undef=a.eval (.tmp slot):=by simp [Act.eval]
 rw [← hv] at t1
 generalize a.tmps[slot]?.getD undef=v at *
 generalize hW:(⟨w.heap.setIfInBounds r (Obj.map (es.push { key:=Value.string k,val:=v,born:=clk }) (clk+1)),w.tape,w.drawn,w.os,w.output⟩:World)=W at *
 have hWr:W.heap[r]?=some (.map (es.push { key:=.string k,val:=v,born:=clk }) (clk+1)):=by rw [← hW];simp [hlt]
 clear hoth hW
 refine ⟨by simp [hsz],hJ.tmps,hJ.inp,hJ.defers,hJ.low,hg2,hJ.ext.trans hx,fun j d he hdn=>?_,fun _=>?_,fun h=>?_,fun h=>?_,fun h=>?_,fun h=>?_⟩
 ·have hij:i≠j:=by rintro rfl;rw [n1] at he;cases he
  rw [done_set (by omega),if_neg hij] at hdn
  exact (hJ.sp j d he hdn).ext hx
 ·refine ⟨r,_,_,e1,e2,hWr,fun e he=>?_,fun k'=>?_⟩
  ·simp only [Array.toList_push,List.mem_append,List.mem_singleton] at he
   rcases he with he | rfl
   ·exact e4 e he
   ·exact ⟨k,rfl⟩
  ·have h5:=e5 k'
   rw [Array.toList_push,look_push]
   have hkk:keyIs (Value.string k) k'=(k' == k):=rfl
   simp only [hkk]
   by_cases hk:k'=k
   ·subst hk
    rw [hcl,hlk,ba_refl]
    simp only [done_set (show i < done.size by omega),if_true,Option.none_or]
    exact ⟨v,rfl,t1.ext hx⟩
   ·have hkn:(k' == k)=false:=by
     cases hb:(k' == k)
     ·rfl
     ·exact absurd (ba_eq hb) hk
    rw [hkn]
    simp only [Bool.false_eq_true,if_false,Option.or_none]
    cases hc:clsOf k' with
    | none=>rw [hc] at h5;exact h5
    | some x =>
     obtain ⟨i',p'⟩:=x
     rw [hc] at h5
     have hii:i≠i':=by rintro rfl;exact hk (cls_inj hc hcl)
     simp only [done_set (show i < done.size by omega),if_neg hii] at h5 ⊢
     split
     ·rename_i hh
      rw [if_pos hh] at h5
      obtain ⟨u,hu1,hu2⟩:=h5
      exact ⟨u,hu1,hu2.ext hx⟩
     ·rename_i hh
      rw [if_neg hh] at h5
      exact h5
 ·rw [done_set (by omega),if_neg n2,h0] at h;cases h
 ·rw [done_set (by omega),if_neg n2,h0] at h;cases h
 ·rw [done_set (by omega),if_neg n3] at h;exact hJ.last h
 ·rw [done_set (by omega),if_neg n4] at h;exact hJ.back h
end
end Go.Proofs.YtnjagecmhdagkaaGreatDoor
