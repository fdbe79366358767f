/-
 Several texts of the proof: MatT, MatU, MatV.
-/
import Derived.Test.YtnjagecmhdagkaaGreatDoorPk00
import Derived.Test.YtnjagecmhdagkaaGreatDoorPk08
import Derived.Laws.StructEq
import Derived.Test.YtnjagecmhdagkaaGreatDoorPk27
set_option linter.unusedSimpArgs false
set_option linter.unusedVariables false
set_option maxRecDepth 3000
/-
  Matches: a map keyed by spots.
-/
namespace Go.Proofs.YtnjagecmhdagkaaGreatDoor
open Go.RowKit Go.MapKept
abbrev spotV (a b c:Int):Value:=.agg #[.int .i64 a,.int .i64 b,.int .i64 c]
theorem spotV_inj {a b c x y z:Int} (h:spotV a b c=spotV x y z):a=x∧b=y∧c=z:=by
 unfold spotV at h
 injection h with h
 have h0:=congrArg (fun l=>l[0]?) h
 have h1:=congrArg (fun l=>l[1]?) h
 have h2:=congrArg (fun l=>l[2]?) h
 simp at h0 h1 h2
 exact ⟨h0,h1,h2⟩
theorem eq_spot (a b c x y z:Int) (w:World):(Op.equal 192 (spotV a b c) (spotV x y z)).run Tryz.prog w=.ok (a == x && (b == y && c == z)) w:=by
 have u3:=Tryz.underlying3
 have a3:=Tryz.isAgg3
 have z3:=Tryz.sizeOf3
 have hS:Tryz.prog.underlying 192=some (.struct (Tryz.prog.fieldsOf 192)):=by kernel_rfl
 have hp:Tryz.prog.stoodInHeld 192=false:=by kernel_rfl
 unfold Op.equal spotV
 rw [show Op.maxDepth=9999+1 from rfl,run_equalIn_agg w 9999 192 _ _ hS hp]
 simp only [Program.fieldsOf,Tryz.underlying192]
 go_simp
 by_cases h1:a=x <;> by_cases h2:b=y <;> by_cases h3:c=z <;> simp [h1,h2,h3]
theorem check_spot (em:Bool) (a b c:Int) (w:World):(Instr.checkKey em 10000 192 (spotV a b c)).run Tryz.prog w=.ok () w:=by kernel_rfl
def SpotKeys (es:List MapEntry):Prop:=∀ e ∈ es,∃ a b c,e.key=spotV a b c
theorem findAsking_spot (a b c:Int):∀ (es:List MapEntry) (i:Nat),SpotKeys es →
  (∀ w,(Instr.findAsking 192 (spotV a b c) es i).run Tryz.prog w=.ok none w) ∨
  ∃ j e,(∀ w,(Instr.findAsking 192 (spotV a b c) es i).run Tryz.prog w=.ok (some (i+j,e.val)) w)∧es[j]?=some e∧e.key=spotV a b c
 | [],i,_=>.inl (by simp [Instr.findAsking])
 | e::es,i,h=>by
  obtain ⟨x,y,z,he⟩:=h e (by simp)
  have hq:=eq_spot a b c x y z
  rw [← he] at hq
  by_cases hk:a=x∧b=y∧c=z
  ·right
   refine ⟨0,e,?_,rfl,by rw [he,hk.1,hk.2.1,hk.2.2]⟩
   have:(a == x && (b == y && c == z))=true:=by simp [hk.1,hk.2.1,hk.2.2]
   rw [this] at hq
   simp [Instr.findAsking,hq]
  ·have:(a == x && (b == y && c == z))=false:=by
    simp only [Bool.and_eq_false_imp,beq_iff_eq,beq_eq_false_iff_ne]
    intro h1 h2 h3
    exact hk ⟨h1,h2,h3⟩
   rw [this] at hq
   rcases findAsking_spot a b c es (i+1) (fun e he=>h e (by simp [he])) with h1 | ⟨j,e',h1,h2,h3⟩
   ·exact .inl (by simp [Instr.findAsking,hq,h1])
   ·exact .inr ⟨j+1,e',by simp [Instr.findAsking,hq,h1,Nat.add_assoc,Nat.add_comm 1 j],by simpa using h2,h3⟩
theorem find_spot (a b c:Int) {es:List MapEntry} (h:SpotKeys es) :
  (∀ w,(Instr.findKey 192 (spotV a b c) es).run Tryz.prog w=.ok none w) ∨
  ∃ j e,(∀ w,(Instr.findKey 192 (spotV a b c) es).run Tryz.prog w=.ok (some (j,e.val)) w)∧es[j]?=some e∧e.key=spotV a b c:=by
 cases es with
 | nil=>exact .inl (by simp [Instr.findKey,run_underlying Tryz.underlying192,Instr.findNow])
 | cons e es =>
  have e1:∀ w,(Instr.findKey 192 (spotV a b c) (e::es)).run Tryz.prog w=(Instr.findAsking 192 (spotV a b c) (e::es)).run Tryz.prog w:=fun w=>by
   simp [Instr.findKey,run_underlying Tryz.underlying192,Instr.findNow,Instr.sameNow]
  simp only [e1]
  simpa using findAsking_spot a b c (e::es) 0 h
theorem stays_spot (a b c:Int) (w:World):(Instr.keyThatStays (spotV a b c) (spotV a b c)).run Tryz.prog w=.ok (spotV a b c) w:=by
 have:Instr.sameBits 10000 (spotV a b c) (spotV a b c)=true:=by
  show Instr.sameBits (9999+1) _ _=true
  simp [spotV,Instr.sameBits]
 simp [Instr.keyThatStays,this]
def SpotMap (w:World) (r:Nat) (Q:Int→Int→Int→Value→Prop):Prop :=
 ∃ (es:Array MapEntry) (clk:Nat),w.heap[r]?=some (.map es clk)∧∀ e ∈ es.toList,∃ a b c,e.key=spotV a b c∧Q a b c e.val
theorem SpotMap.lt {w:World} {r:Nat} {Q:Int→Int→Int→Value→Prop} (h:SpotMap w r Q):r < w.heap.size:=by
 obtain ⟨es,clk,h1,_⟩:=h
 exact (Array.getElem?_eq_some_iff.1 h1).1
theorem SpotMap.chg {w w':World} {r:Nat} {Q Q':Int→Int→Int→Value→Prop} {q:Nat→Prop} (h:SpotMap w r Q) (hc:Chg q w w') (hr:¬ q r) (hQ:∀ a b c v,Q a b c v→Q' a b c v):SpotMap w' r Q':=by
 have hl:=h.lt
 obtain ⟨es,clk,h1,h2⟩:=h
 refine ⟨es,clk,(hc.block r hl hr).trans h1,fun e he=>?_⟩
 obtain ⟨a,b,c,h3,h4⟩:=h2 e he
 exact ⟨a,b,c,h3,hQ _ _ _ _ h4⟩
theorem SpotMap.mono {w:World} {r:Nat} {Q Q':Int→Int→Int→Value→Prop} (h:SpotMap w r Q) (hQ:∀ a b c v,Q a b c v→Q' a b c v):SpotMap w r Q':=h.chg (Chg.refl (fun _=>False) w) (fun h=>h) hQ
abbrev tMap:TypeId:=113
theorem run_lookup_spot (a b c:Int) (w:World) {r:Nat} {Q:Int→Int→Int→Value→Prop} (h:SpotMap w r Q) :
  ∃ (v:Value) (ok:Bool),(∀ w':World,w'.heap=w.heap→(Instr.lookup tMap (.map (some r)) (spotV a b c) true).run Tryz.prog w'=.ok (.tuple #[v,.bool ok]) w')∧(ok=true→Q a b c v):=by
 obtain ⟨es,clk,h0,h2⟩:=h
 have h1:∀ {w':World},w'.heap=w.heap→w'.heap[r]?=some (.map es clk):=fun e=>by rw [e];exact h0
 have hk:SpotKeys es.toList:=fun e he=>by
  obtain ⟨a,b,c,h3,_⟩:=h2 e he
  exact ⟨a,b,c,h3⟩
 have hz:∀ w,(zeroValue 117).run Tryz.prog w=.ok (.slice none 0 0) w:=fun w=>by kernel_rfl
 rcases find_spot a b c hk with hf | ⟨j,e,hf,he,hke⟩
 ·refine ⟨.slice none 0 0,false,?_,fun h=>by cases h⟩
  intro w' hw'
  unfold Instr.lookup
  simp only [Sem.run_bind,run_underlying Tryz.underlying113,Result.andThen_ok,Go.MapKept.run_getObj_map (h1 hw'),Sem.run_pure,check_spot,hf,hz]
  simp
 ·refine ⟨e.val,true,?_,fun _=>?_⟩
  ·intro w' hw'
   unfold Instr.lookup
   simp only [Sem.run_bind,run_underlying Tryz.underlying113,Result.andThen_ok,Go.MapKept.run_getObj_map (h1 hw'),Sem.run_pure,check_spot,hf]
   simp
  ·obtain ⟨x,y,z,h3,h4⟩:=h2 e (List.mem_of_getElem? he)
   rw [hke] at h3
   obtain ⟨rfl,rfl,rfl⟩:=spotV_inj h3
   exact h4
theorem run_update_spot (a b c:Int) (v:Value) (w:World) {r:Nat} {Q:Int→Int→Int→Value→Prop} (h:SpotMap w r Q) :
  ∃ o:Obj,(∀ w':World,w'.heap=w.heap→(Instr.mapUpdate tMap (.map (some r)) (spotV a b c) v).run Tryz.prog w'=.ok () (putO w' r o))∧∀ (w':World) (Q':Int→Int→Int→Value→Prop),w'.heap=w.heap→(∀ x y z u,Q x y z u→Q' x y z u)→Q' a b c v→SpotMap (putO w' r o) r Q':=by
 have hl:=h.lt
 obtain ⟨es,clk,h0,h2⟩:=h
 have h1:∀ {w':World},w'.heap=w.heap→w'.heap[r]?=some (.map es clk):=fun e=>by rw [e];exact h0
 have hl1:∀ {w':World},w'.heap=w.heap→r < w'.heap.size:=fun e=>by rw [e];exact hl
 have hk:SpotKeys es.toList:=fun e he=>by
  obtain ⟨a,b,c,h3,_⟩:=h2 e he
  exact ⟨a,b,c,h3⟩
 rcases find_spot a b c hk with hf | ⟨j,e,hf,he,hke⟩
 ·refine ⟨.map (es.push { key:=spotV a b c,val:=v,born:=clk }) (clk+1),fun w' hw'=>?_,fun w' Q' hw' hQ hv=>⟨_,_,putO_at (hl1 hw'),fun e he=>?_⟩⟩
  ·unfold Instr.mapUpdate
   simp only [Sem.run_bind,run_underlying Tryz.underlying113,Result.andThen_ok,Go.MapKept.run_getObj_map (h1 hw'),check_spot,hf,run_setObj_map _ (h1 hw')]
   rfl
  ·simp only [Array.toList_push,List.mem_append,List.mem_singleton] at he
   rcases he with he | rfl
   ·obtain ⟨x,y,z,h3,h4⟩:=h2 e he
    exact ⟨x,y,z,h3,hQ _ _ _ _ h4⟩
   ·exact ⟨a,b,c,rfl,hv⟩
 ·have hea:es[j]?=some e:=by simpa using he
  refine ⟨.map (es.modify j fun e=>{ e with key:=spotV a b c,val:=v }) clk,fun w' hw'=>?_,fun w' Q' hw' hQ hv=>⟨_,_,putO_at (hl1 hw'),fun x hx=>?_⟩⟩
  ·unfold Instr.mapUpdate
   simp only [Sem.run_bind,run_underlying Tryz.underlying113,Result.andThen_ok,Go.MapKept.run_getObj_map (h1 hw'),check_spot,hf,hea,Option.map_some,Option.getD_some,hke,stays_spot,run_setObj_map _ (h1 hw')]
   rfl
  ·rw [Array.toList_modify] at hx
   obtain ⟨i,hi⟩:=List.getElem?_of_mem hx
   rw [List.getElem?_modify] at hi
   by_cases e3:j=i
   ·subst e3
    rw [he] at hi
    simp at hi
    subst hi
    exact ⟨a,b,c,rfl,hv⟩
   ·have hy:es.toList[i]?=some x:=by
     cases hq:es.toList[i]? with
     | none=>rw [hq] at hi;simp at hi
     | some y=>rw [hq] at hi;simpa [e3] using hi
    obtain ⟨x2,y2,z2,h3,h4⟩:=h2 x (List.mem_of_getElem? hy)
    exact ⟨x2,y2,z2,h3,hQ _ _ _ _ h4⟩
end Go.Proofs.YtnjagecmhdagkaaGreatDoor
namespace Go.Proofs.YtnjagecmhdagkaaGreatDoor
open Go.RowKit
def AllNum (Nm:Nat→NdV→Fr→Prop):Fr→Nat→Prop
 | .nil,_=>True
 | .cons x k r,m=>Nm m x k∧AllNum Nm k (m+1)∧AllNum Nm r (m+1+k.size)
structure NdOk (x:NdV):Prop where
 mn:x.mn≤1000
 mx:x.mx≤1000
 n:x.n < 10
structure NumOk (Nm:Nat→NdV→Fr→Prop):Prop where
 one:∀ i x k y l,Nm i x k→Nm i y l→x=y∧k=l
 ok:∀ i x k,Nm i x k→NdOk x∧i≤1000000
theorem AllNum.app {Nm:Nat→NdV→Fr→Prop} {b:Fr}:∀ {a:Fr} {m:Nat},AllNum Nm (a.app b) m ↔ AllNum Nm a m∧AllNum Nm b (m+a.size):=by
 intro a
 induction a with
 | nil=>intro m;simp [Fr.app,AllNum,Fr.size]
 | cons x k r _ ih =>
  intro m
  simp only [Fr.app,AllNum,ih,Fr.size]
  rw [show m+1+k.size+r.size=m+(k.size+r.size+1) by omega]
  simp only [and_assoc]
def AllK (C:Fr→Prop):Fr→Prop
 | .nil=>True
 | .cons _ k r=>C k∧AllK C r
theorem AllK.app {C:Fr→Prop} {b:Fr}:∀ {a:Fr},AllK C (a.app b) ↔ AllK C a∧AllK C b:=by
 intro a
 induction a with
 | nil=>simp [Fr.app,AllK]
 | cons x k r _ ih=>simp only [Fr.app,AllK,ih,and_assoc]
theorem all_of {C:Fr→Prop} (h:∀ f,AllK C f→C f):∀ f,C f∧AllK C f:=by
 intro f
 induction f with
 | nil=>exact ⟨h _ trivial,trivial⟩
 | cons x k r ihk ihr=>exact ⟨h _ ⟨ihk.1,ihr.2⟩,ihk.1,ihr.2⟩
def EntryQ (s:List UInt8) (Nm:Nat→NdV→Fr→Prop) (r tb:Nat) (q:Nat→Prop) (w:World) (id a d:Int) (v:Value):Prop :=
 ∃ (i a' d':Nat) (x:NdV) (k:Fr) (b:Nat),id=i∧a=a'∧d=d'∧Nm i x k∧v=plV b (wds s.length)∧q b∧b≠r∧b≠tb∧PlAt w b (wds s.length) (turnsS s.length x (endsF s k) a' d')
structure TbAt (s:List UInt8) (Nm:Nat→NdV→Fr→Prop) (tb r lo:Nat) (q:Nat→Prop) (w:World):Prop where
 tab:blk w tb=#[.string (tx s),.map (some r)]
 map:SpotMap w r (EntryQ s Nm r tb q w)
 tz:TzAt w
 ne:tb≠r
 ltb:lo≤tb
 lr:lo≤r
 ltz:0 < lo
section
variable {s:List UInt8} {Nm:Nat→NdV→Fr→Prop} {tb r lo:Nat} {q q' p:Nat→Prop} {w w':World}
theorem TbAt.inh (h:TbAt s Nm tb r lo q w):InHeap tb w:=Blk.inHeap h.tab (by simp)
theorem TbAt.chg (h:TbAt s Nm tb r lo q w) (hc:Chg p w w') (htb:¬ p tb) (hr:¬ p r) (hz:¬ p 0) (hq:∀ b,b < w.heap.size→q b→b≠r→b≠tb→¬ p b):TbAt s Nm tb r lo q w' :=
 ⟨(chg_blk hc h.inh htb).trans h.tab,h.map.chg hc hr (fun a b c v ⟨i,a',d',x,k,b',h1,h2,h3,h4,h5,h6,h7,h8,h9⟩=>⟨i,a',d',x,k,b',h1,h2,h3,h4,h5,h6,h7,h8,h9.chg hc (hq b' h9.inh h6 h7 h8)⟩),h.tz.chg hc hz,h.ne,h.ltb,h.lr,h.ltz⟩
theorem TbAt.grows (h:TbAt s Nm tb r lo q w) (hg:Grows w w'):TbAt s Nm tb r lo q w':=h.chg (Chg.of_grows (p:=fun _=>False) hg) (fun h=>h) (fun h=>h) (fun h=>h) (fun _ _ _ _ _ h=>h)
theorem TbAt.mono (h:TbAt s Nm tb r lo q w) (hq:∀ b,b < w.heap.size→q b→q' b):TbAt s Nm tb r lo q' w :=
 ⟨h.tab,h.map.mono (fun a b c v ⟨i,a',d',x,k,b',h1,h2,h3,h4,h5,h6,h7,h8,h9⟩=>⟨i,a',d',x,k,b',h1,h2,h3,h4,h5,hq b' h9.inh h6,h7,h8,h9⟩),h.tz,h.ne,h.ltb,h.lr,h.ltz⟩
theorem TbAt.put {c:Nat} (h:TbAt s Nm tb r lo q w) (hc:Chg (fun b=>b=c) w w') (hq:¬ q c) (hr:c≠r) (htb:c≠tb) (hlo:lo≤c):TbAt s Nm tb r lo q w' :=
 h.chg hc (fun e=>htb e.symm) (fun e=>hr e.symm) (fun e=>by have:=h.ltz;omega) (fun b _ hb _ _ e=>hq (e ▸ hb))
theorem TbAt.rlt (h:TbAt s Nm tb r lo q w):r < w.heap.size:=h.map.lt
end
structure LaidAt (w:World) (cs:List (Array Value)) (w':World):Prop where
 grows:Grows w w'
 size:w'.heap.size=w.heap.size+cs.length
 blk:∀ j c,cs[j]?=some c→blk w' (w.heap.size+j)=c
section
variable {w w':World} {cs:List (Array Value)}
theorem LaidAt.start (w:World):LaidAt w [] w:=⟨Grows.refl w,rfl,fun j c h=>by simp at h⟩
theorem LaidAt.alloc (h:LaidAt w cs w') (c:Array Value) (t:TypeId):LaidAt w (cs++[c]) (w'.alloc (.cells c t)):=by
 refine ⟨h.grows.alloc _,by simp [h.size];omega,fun j d hj=>?_⟩
 rw [List.getElem?_append] at hj
 split at hj
 ·rename_i hlt
  obtain ⟨m,hm⟩:=(Grows.refl w').alloc (.cells c t)
  rw [hm,blk_more _ _ _ (by unfold InHeap;rw [h.size];omega)]
  exact h.blk j d hj
 ·rename_i hlt
  have:j - cs.length=0:=by
   cases e:j - cs.length with
   | zero=>rfl
   | succ n=>rw [e] at hj;simp at hj
  rw [this] at hj
  simp at hj
  subst hj
  exact blk_alloc_at _ _ _ _ (by rw [h.size];omega)
theorem LaidAt.drewN (h:LaidAt w cs w') (n:Nat):LaidAt w cs (w'.drewN n):=⟨h.grows.drewN n,h.size,h.blk⟩
end
def accP (B R:Pl) (E:Nat→Pl) (i:Nat):Pl:=fun j=>B j || (List.range i).any fun t=>R t && E t j
theorem acc_zero (B R:Pl) (E:Nat→Pl):accP B R E 0=B:=by funext j;simp [accP]
theorem acc_skip {B R:Pl} {E:Nat→Pl} {i:Nat} (h:R i=false):accP B R E (i+1)=accP B R E i:=by
 funext j
 simp [accP,List.range_succ,h]
theorem acc_next {B R:Pl} {E:Nat→Pl} {i:Nat} (h:R i=true):accP B R E (i+1)=orP (accP B R E i) (E i):=by
 funext j
 simp [accP,orP,List.range_succ,h,Bool.or_assoc]
theorem acc_all {B R:Pl} {E:Nat→Pl} {n m:Nat} (hR:∀ i,R i=true→i≤n) (hm:n < m):accP B R E m=fun j=>B j || anyTo n fun i=>R i && E i j:=by
 funext j
 unfold accP anyTo
 congr 1
 rw [Bool.eq_iff_iff,List.any_eq_true,List.any_eq_true]
 simp only [List.mem_range,Bool.and_eq_true]
 constructor
 ·rintro ⟨i,h1,h2,h3⟩;exact ⟨i,by have:=hR i h2;omega,h2,h3⟩
 ·rintro ⟨i,h1,h2,h3⟩;exact ⟨i,by omega,h2,h3⟩
section
variable (s:List UInt8) (Nm:Nat→NdV→Fr→Prop) (tb r lo:Nat)
def RowC (f:Fr):Prop:=∀ (m:Nat) (A:Option Addr) (cap a:Nat) (q:Nat→Prop) (w:World),AllNum Nm f m→NfAt (fun b=>b < lo) w A cap f m→TbAt s Nm tb r lo q w→(∀ b,w.heap.size≤b→q b)→a≤s.length →
 Calls Tryz.prog 45 #[.pointer (some ⟨tb,0,none⟩),.slice A f.len cap,.int .i64 a] w fun e w'=>∃ b,e=.returned (plV b (wds s.length))∧PlAt w' b (wds s.length) (endsF s f a)∧w.heap.size≤b∧TbAt s Nm tb r lo q w'∧Chg (fun x=>x=r) w w'
def TurnsC (x:NdV) (k:Fr) (a d:Nat):Prop:=∀ (id:Nat) (K:Option Addr) (kn kc:Nat) (A:Option Addr) (cap:Nat) (q:Nat→Prop) (w:World),Nm id x k→AllNum Nm k (id+1)→NfAt (fun b=>b < lo) w A cap k (id+1)→TbAt s Nm tb r lo q w→(∀ b,w.heap.size≤b→q b) →
 Calls Tryz.prog 95 #[.pointer (some ⟨tb,0,none⟩),.agg (nmC x (.slice K kn kc) id (.slice A k.len cap)),.int .i64 a,.int .i64 d] w fun e w'=>∃ b,e=.returned (plV b (wds s.length))∧PlAt w' b (wds s.length) (turnsS s.length x (endsF s k) a d)∧q b∧b≠r∧b≠tb∧TbAt s Nm tb r lo q w'∧Chg (fun x=>x=r) w w'
def NodeC (x:NdV) (k:Fr):Prop:=∀ (id:Nat) (K:Option Addr) (kn kc:Nat) (A:Option Addr) (cap a c:Nat) (P:Pl) (q:Nat→Prop) (w:World),Nm id x k→AllNum Nm k (id+1)→NfAt (fun b=>b < lo) w A cap k (id+1)→TbAt s Nm tb r lo q w→(∀ b,w.heap.size≤b→q b)→a≤s.length →
 PlAt w c (wds s.length) P→¬ q c→c≠r→c≠tb→lo≤c →
 Calls Tryz.prog 73 #[.pointer (some ⟨tb,0,none⟩),.agg (nmC x (.slice K kn kc) id (.slice A k.len cap)),.int .i64 a,plV c (wds s.length)] w fun e w'=>e=.returned (.tuple #[])∧PlAt w' c (wds s.length) (orP P (nodeS s x (endsF s k) a))∧TbAt s Nm tb r lo q w'∧Chg (fun x=>x=r∨x=c) w w'
end
end Go.Proofs.YtnjagecmhdagkaaGreatDoor
namespace Go.Proofs.YtnjagecmhdagkaaGreatDoor
open Go.RowKit
theorem nm_span (x:NdV) (K:Value) (id:Int) (k:Value):span (nmC x K id k) 0 262=ndC x K:=by
 have hs:(ndC x K).size=262:=ndA_size _ _ _ _ _ _ _
 apply Array.ext_getElem?
 intro j
 unfold span
 by_cases hj:j < 262
 ·rw [List.drop_zero,List.getElem?_toArray,List.getElem?_take_of_lt hj,Array.getElem?_toList]
  exact nmA_lt hs hj
 ·rw [Array.getElem?_eq_none (by simp;omega),Array.getElem?_eq_none (by omega)]
theorem nm_ld {w:World} {g:Nat} {x:NdV} {K k:Value} {id:Int} (h:blk w g=nmC x K id k):loadPart Tryz.prog w 95 g 0 262=.ok (.agg (ndC x K)) w:=by
 rw [loadNode_if,if_pos (by rw [h,nmC_size];omega),h,nm_span]
theorem nodeS_7 {s:List UInt8} {x:NdV} {R:Nat→Pl} {a:Nat} (h:x.kind=7):nodeS s x R a=R a:=by unfold nodeS;rw [if_pos h]
theorem nodeS_8 {s:List UInt8} {x:NdV} {R:Nat→Pl} {a:Nat} (h:x.kind=8):nodeS s x R a=turnsS s.length x R a 0:=by unfold nodeS;rw [if_neg (by omega),if_pos h]
theorem nodeS_none {s:List UInt8} {x:NdV} {R:Nat→Pl} {a:Nat} (h7:x.kind≠7) (h8:x.kind≠8) (h:oneV x s a spZero=none):nodeS s x R a=fun _=>false:=by unfold nodeS;rw [if_neg h7,if_neg h8,h]
theorem nodeS_some {s:List UInt8} {x:NdV} {R:Nat→Pl} {a k:Nat} (h7:x.kind≠7) (h8:x.kind≠8) (h:oneV x s a spZero=some k):nodeS s x R a=one1 (a+k):=by unfold nodeS;rw [if_neg h7,if_neg h8,h]
theorem or_none (P:Pl):orP P (fun _=>false)=P:=by funext j;simp [orP]
theorem add_or (P:Pl) (a:Nat):addP P a=orP P (one1 a):=rfl
attribute [local go_sem ↓] zeroNm ldNm_eq stNm_eq ldNode_eq stNode_eq bldSp_eq
attribute [local go_sem] loadNm loadNm_if storeNm storeNm_if loadNode ndA_one_slice nm_one_nd nm_size_nd over_nm bldSp_run
section
variable {s:List UInt8} {Nm:Nat→NdV→Fr→Prop} {tb r lo:Nat}
set_option maxRecDepth 100000 in
set_option maxHeartbeats 2000000 in
theorem node_any (hs:s.length≤60000) (hN:NumOk Nm) {x:NdV} {k:Fr} (hrow:RowC s Nm tb r lo k) (hturn:∀ a,a≤s.length→TurnsC s Nm tb r lo x k a 0):NodeC s Nm tb r lo x k:=by
 intro id K kn kc A cap a c P q w hid hall hnf ht hq ha hc hqc hcr hctb hloc
 have hW:=wds_le hs
 obtain ⟨hok,hidl⟩:=hN.ok id x k hid
 obtain ⟨S,hS⟩:∃ S,nodeS s x (endsF s k) a=S:=⟨_,rfl⟩
 rw [hS]
 have HS:=Lib.hid hS
 clear hS
 have H:=Lib.hid ht
 have HC:=Lib.hid hc
 have HNF:=Lib.hid hnf
 have HALL:=Lib.hid hall
 have HQ:=Lib.hid hq
 have HQC:=Lib.hid hqc
 have HID:=Lib.hid hid
 have icw:c < w.heap.size:=hc.inh
 have irw:r < w.heap.size:=ht.rlt
 have itw:tb < w.heap.size:=ht.inh
 have hnl:=hok.n
 have hm0:(nmC x (.slice K kn kc) id (.slice A k.len cap)).size=264:=nmC_size _ _ _ _
 clear ht hc hnf hall hq hqc hid hok
 go_enter Tryz.func73,Tryz.ntmps73
 go_upto_region 1 with fail
 have hL:=(LaidAt.start w).alloc (nmC x (.slice K kn kc) id (.slice A k.len cap)) 102
 generalize w.alloc (Obj.cells (nmC x (.slice K kn kc) id (.slice A k.len cap)) 102)=w1 at *
 have hb1:blk w1 w.heap.size=nmC x (.slice K kn kc) id (.slice A k.len cap):=hL.blk 0 _ rfl
 have hg1:=hL.grows
 have hz1:w1.heap.size=w.heap.size+1:=hL.size
 have c0:w1.cell? ⟨w.heap.size,0,none⟩=some (.int .i64 x.kind):=((Blk.cell hb1 (by omega) 0).trans (nmA_lt (ndA_size _ _ _ _ _ _ _) (by decide))).trans (ndA_0 _ _ _ _ _ _ _)
 have c263:w1.cell? ⟨w.heap.size,263,none⟩=some (.slice A k.len cap):=(Blk.cell hb1 (by omega) 263).trans (nmA_263 (ndA_size _ _ _ _ _ _ _))
 have T1:=Lib.hid (H.out.grows hg1)
 have C1:=Lib.hid (HC.out.grows hg1)
 have NF1:=Lib.hid (HNF.out.chg (Chg.of_grows (p:=fun _=>False) hg1) fun _ _ _ h=>h)
 have HQ1:Hid (∀ b,w1.heap.size≤b→q b):=Lib.hid fun b hb=>HQ.out b (by omega)
 have HG1:=Lib.hid hg1
 clear hL hm0 hg1 H HC HNF HQ
 by_cases h7:x.kind=7
 ·have b7:((x.kind:Int) == 7)=true:=by simp;omega
  have hcall:=hrow (id+1) A cap a q w1 HALL.out NF1.out T1.out HQ1.out ha
  have hnS:=HS.out.symm.trans (nodeS_7 (s:=s) (R:=endsF s k) (a:=a) h7)
  subst hnS
  clear h7 HS
  go_wp2_with fail
  (with_reducible refine hcall.mono ?_)
  rintro e w2 ⟨b,rfl,hB,hbl,hT2,hC2⟩
  have HC2:=C1.out.chg hC2 hcr
  have hj:=join_any HC2 hB (by omega) hW
  have T2:=Lib.hid hT2
  have G2:=Lib.hid hC2
  clear hcall hB HC2 hT2 hC2
  go_wp2_with fail
  (with_reducible refine hj.mono ?_)
  rintro e w3 ⟨rfl,hP3,hC3⟩
  have P3:=Lib.hid hP3
  have T3:=Lib.hid (T2.out.put hC3 HQC.out hcr hctb hloc)
  have hCC:Chg (fun x=>x=r∨x=c) w w3:=(Chg.of_grows HG1.out).trans ((G2.out.mono fun _ _ h=>.inl h).trans (hC3.mono fun _ _ h=>.inr h))
  have CC:=Lib.hid hCC
  clear hj hP3 hC3 hCC
  go_wp2_with fail
  exact ⟨rfl,.tuple #[],results_none rfl _ _ _,rfl,P3.out,T3.out,CC.out⟩
 have b7:((x.kind:Int) == 7)=false:=by simp;omega
 by_cases h8:x.kind=8
 ·have b8:((x.kind:Int) == 8)=true:=by simp;omega
  have hcall:=hturn a ha id K kn kc A cap q w1 HID.out HALL.out NF1.out T1.out HQ1.out
  rw [show ((0:Nat):Int)=0 from rfl] at hcall
  have hnS:=HS.out.symm.trans (nodeS_8 (s:=s) (R:=endsF s k) (a:=a) h8)
  subst hnS
  have hld:=loadNm_all w1 w.heap.size _ hb1 (nmC_size _ _ _ _)
  clear h7 h8 HS
  go_wp2_with fail
  (with_reducible refine hcall.mono ?_)
  rintro e w2 ⟨b,rfl,hB,hqb,hbr,hbt,hT2,hC2⟩
  have HC2:=C1.out.chg hC2 hcr
  have hbc:b≠c:=fun e=>HQC.out (e ▸ hqb)
  have hj:=join_any HC2 hB hbc hW
  have T2:=Lib.hid hT2
  have G2:=Lib.hid hC2
  clear hcall hB HC2 hT2 hC2
  go_wp2_with fail
  (with_reducible refine hj.mono ?_)
  rintro e w3 ⟨rfl,hP3,hC3⟩
  have P3:=Lib.hid hP3
  have T3:=Lib.hid (T2.out.put hC3 HQC.out hcr hctb hloc)
  have hCC:Chg (fun x=>x=r∨x=c) w w3:=(Chg.of_grows HG1.out).trans ((G2.out.mono fun _ _ h=>.inl h).trans (hC3.mono fun _ _ h=>.inr h))
  have CC:=Lib.hid hCC
  clear hj hP3 hC3 hCC
  go_wp2_with fail
  exact ⟨rfl,.tuple #[],results_none rfl _ _ _,rfl,P3.out,T3.out,CC.out⟩
 have b8:((x.kind:Int) == 8)=false:=by simp;omega
 have ctb:w1.cell? ⟨tb,0,none⟩=some (.string (tx s)):=Blk.cell T1.out.tab (by simp) 0
 have itb1:InHeap tb w1:=T1.out.inh
 have ibx:InHeap w.heap.size w1:=Blk.inHeap hb1 (by rw [nmC_size];decide)
 have hld:∀ m:More,loadPart Tryz.prog (more w1 m) 95 w.heap.size 0 262=.ok (.agg (ndC x (.slice K kn kc))) (more w1 m):=fun m=>nm_ld ((blk_more _ _ _ ibx).trans hb1)
 have hone:∀ m:More,Calls Tryz.prog 69 #[.agg (ndC x (.slice K kn kc)),.string (tx s),.int .i64 a,spV spZero] (more w1 m) fun e w'=>e=.returned (.int .i64 (oneI x s a spZero))∧Grows (more w1 m) w':=fun m=>one_any x K kn kc s a spZero (more w1 m) (spIn_zero _) ha (fun _=>hnl) hs
 have hld0:loadPart Tryz.prog w1 95 w.heap.size 0 262=.ok (.agg (ndC x (.slice K kn kc))) w1:=nm_ld hb1
 clear hb1
 go_upto_region 2 with fail
 refine region_grows (by kernel_rfl) (by kernel_rfl) ?_
 repeat (go_big_quiet_step ((go_at_call 69;exact calls_grows (hone _))))
 refine wpQuiet_nil ?_
 intro _ hw'
 obtain ⟨m1,rfl⟩:=hw'
 have hg2:Grows w1 (more w1 m1):=⟨m1,rfl⟩
 have T2:=Lib.hid (T1.out.grows hg2)
 have C2:=Lib.hid (C1.out.grows hg2)
 have G2:=Lib.hid (HG1.out.trans hg2)
 clear hld hone hld0 c0 c263 b7 b8 ctb itb1 ibx hg2 HQ1 NF1 T1 C1 hz1
 generalize more w1 m1=w2 at *
 cases hone:oneV x s a spZero with
 | none =>
  have hnS:=HS.out.symm.trans (nodeS_none h7 h8 hone)
  subst hnS
  rw [oneI_none hone]
  clear hone h7 h8 HS
  go_wp2_with fail
  exact ⟨rfl,.tuple #[],results_none rfl _ _ _,rfl,by rw [or_none];exact C2.out,T2.out,Chg.of_grows G2.out⟩
 | some n =>
  have hle:=oneV_le hone ha
  have hnS:=HS.out.symm.trans (nodeS_some h7 h8 hone)
  subst hnS
  rw [oneI_some hone]
  have hset:=set_any C2.out (a+n) (wds_lt hle) hW
  obtain ⟨t,ht⟩:∃ t,a+n=t:=⟨_,rfl⟩
  have hei:(a:Int)+n=(t:Int):=by omega
  have htl:t≤60000:=by omega
  rw [ht] at hset
  have HTT:=Lib.hid ht
  clear hone h7 h8 HS ht hle
  go_wp2_with fail
  (with_reducible refine hset.mono ?_)
  rintro e w3 ⟨rfl,hP3,hC3⟩
  have P3:=Lib.hid hP3
  have T3:=Lib.hid (T2.out.put hC3 HQC.out hcr hctb hloc)
  have hCC:Chg (fun x=>x=r∨x=c) w w3:=(Chg.of_grows G2.out).trans (hC3.mono fun _ _ h=>.inr h)
  have CC:=Lib.hid hCC
  clear hset hP3 hC3 hCC
  go_wp2_with fail
  exact ⟨rfl,.tuple #[],results_none rfl _ _ _,rfl,by rw [← add_or,HTT.out];exact P3.out,T3.out,CC.out⟩
end
end Go.Proofs.YtnjagecmhdagkaaGreatDoor
