/-
 Several texts of the proof: MatE, MatO, MatSp, MatOn, MatQ.
-/
import Derived.Test.YtnjagecmhdagkaaGreatDoorPk25
import Derived.Test.YtnjagecmhdagkaaGreatDoorPk00
import Derived.Test.YtnjagecmhdagkaaGreatDoorPk26
set_option linter.unusedSimpArgs false
set_option linter.unusedVariables false
set_option maxRecDepth 3000
/-
  Matches: the places one by one, walked.
-/
namespace Go.Proofs.YtnjagecmhdagkaaGreatDoor
open Go.RowKit
theorem tz_any (x:Nat) (hx0:x≠0) (hx:x < 18446744073709551616) (w:World) (hT:TzAt w):Calls Tryz.prog 74 #[.int .u64 x] w fun e w'=>e=.returned (.int .i64 (Lib.ctz 64 x))∧w'=w:=by
 obtain ⟨hlow,hk⟩:=Lib.lowest_bit 64 x hx0 hx
 obtain ⟨hi,htab⟩:=Lib.deBruijn64_at _ hk
 have hcell:=hT _ hi
 rw [htab] at hcell
 exact tz_core x _ _ w (by simp;omega) (tz64_key x _ hx hx0 hlow) hi hk hcell
structure EachV (v:Value) (W:Nat) (P:Pl) (f:FuncId) (caps:Array Value) (I:Nat→World→Prop):Prop where
 val:v=.func (.func f) #[] caps
 enters:Enters f
 call:∀ a w,a < 64*W→P a=true→I a w→Calls Tryz.prog f (#[.int .i64 a]++caps) w fun e w'=>e=.returned (.bool true)∧I (a+1) w'
 skip:∀ a w,P a=false→I a w→I (a+1) w
theorem EachV.to {v:Value} {W:Nat} {P:Pl} {f:FuncId} {caps:Array Value} {I:Nat→World→Prop} (h:EachV v W P f caps I) {w:World}:∀ (k a:Nat),(∀ i,a≤i→i < a+k→P i=false)→I a w→I (a+k) w
 | 0,_,_,hI=>hI
 | k+1,a,hP,hI=>by
  have:=EachV.to h k (a+1) (fun i h1 h2=>hP i (by omega) (by omega)) (h.skip a w (hP a (Nat.le_refl _) (by omega)) hI)
  rwa [show a+1+k=a+(k+1) by omega] at this
set_option maxHeartbeats 2000000 in
theorem each_any {w:World} {b W:Nat} {P:Pl} {v:Value} {f:FuncId} {caps:Array Value} {I:Nat→World→Prop} (hV:EachV v W P f caps I) (h0:I 0 w) (hP:∀ a w,I a w→PlAt w b W P) (hT:∀ a w,I a w→TzAt w) (hW:W≤1000) :
  Calls Tryz.prog 46 #[plV b W,v] w fun e w'=>e=.returned (.tuple #[])∧I (64*W) w':=by
 have hv:=hV.val
 subst hv
 have HV:=Lib.hid hV
 have HI0:=Lib.hid h0
 have HP:=Lib.hid hP
 have HT:=Lib.hid hT
 clear hV h0 hP hT
 go_enter Tryz.func46,Tryz.ntmps46
 go_wp2_with fail
 go_loopg [4,5,8] W (fun q _ _ v8 wr=>∃ i:Nat,q+i=W∧v8=.int .i64 i∧I (64*i) wr)
 case atStart=>exact ⟨0,by omega,rfl,HI0.out⟩
 case round =>
  obtain ⟨i,hq,rfl,hI⟩:=hrel
  obtain ⟨wx,hwx⟩:∃ z,z=wr:=⟨_,rfl⟩
  subst hwx
  obtain ⟨go,hgo⟩:∃ z,z=gk:=⟨_,rfl⟩
  subst hgo
  have HQ:=Lib.hid hq
  have hiW:i≤W:=by omega
  have HI:=Lib.hid hI
  clear hq hI
  by_cases hi:i < W
  ·have hix:(i:Int) < (W:Int):=by omega
   have c0:=(HP.out _ _ HI.out).cell hi
   go_wp2_with fail
   go_loopg [5] 64 (fun q v5 wr=>∃ n:Nat,q+n=64*i+64∧64*i≤n∧v5=.int .u64 (wordN (fromP P n) i:Nat)∧I n wr)
   case atStart=>exact ⟨64*i,by omega,Nat.le_refl _,by rw [fromP_zero],HI.out⟩
   case round =>
    obtain ⟨n,hq2,hn,rfl,hI2⟩:=hrel
    obtain ⟨wy,hwy⟩:∃ z,z=wr:=⟨_,rfl⟩
    subst hwy
    have HQ2:=Lib.hid hq2
    have HI2:=Lib.hid hI2
    have hxlt:=wordN_lt (fromP P n) i
    clear hq2 hI2 c0
    by_cases hx:wordN (fromP P n) i=0
    ·have hfin:I (64*(i+1)) wy:=by
      have:=HV.out.to (64*i+64 - n) n (fun j h1 h2=>word_zero hx j h1 (by omega) (by omega)) HI2.out
      rwa [show n+(64*i+64 - n)=64*(i+1) by have:=HQ2.out;omega] at this
     have HF:=Lib.hid hfin
     have hgt:¬ (0:Int) < ((wordN (fromP P n) i:Nat):Int):=by omega
     have hgtn:decide (0 < wordN (fromP P n) i)=false:=decide_eq_false (by omega)
     clear hfin hx hxlt
     go_wp2_with fail
     go_roundg (go - 1)
     case measure=>have:=HQ.out;omega
     case rel=>exact ⟨i+1,by have:=HQ.out;omega,by simp,HF.out⟩
    ·obtain ⟨a,ha,hPa,hna,ha64,hno,hand⟩:=word_next hx hn
     have hIa:I a wy:=by
      have:=HV.out.to (a - n) n (fun j h1 h2=>hno j h1 (by omega)) HI2.out
      rwa [show n+(a - n)=a by omega] at this
     have hcall:=HV.out.call a wy (by omega) hPa hIa
     have htz:=tz_any (wordN (fromP P n) i) hx hxlt wy (HT.out _ _ HI2.out)
     obtain ⟨x,hxx⟩:∃ x,wordN (fromP P n) i=x:=⟨_,rfl⟩
     rw [hxx] at ha hx hxlt hand htz
     rw [hxx]
     obtain ⟨t,ht⟩:∃ t,Lib.ctz 64 x=t:=⟨_,rfl⟩
     rw [ht] at ha htz
     have hat:64*(i:Int)+(t:Int)=(a:Int):=by omega
     have hgt:(0:Int) < (x:Int):=by omega
     have hgtn:0 < x:=by omega
     have hx1:(x:Int) - 1=((x - 1:Nat):Int):=by omega
     have hx1w:IntKind.u64.wrap ((x - 1:Nat):Int)=((x - 1:Nat):Int):=by rw [IntKind.wrap_u64];omega
     have hbit:bits .and .u64 (x:Int) ((x - 1:Nat):Int)=((wordN (fromP P (a+1)) i:Nat):Int):=by rw [bits_and_u64_nat _ _ hxlt (by omega),hand]
     have hent:=HV.out.enters (#[.int .i64 a]++caps) wy
     have HC:=Lib.hid hcall
     have HTZ:=Lib.hid htz
     have HAA:=Lib.hid (show a < 64*i+64∧n≤a from ⟨ha64,hna⟩)
     have hal:a≤64064:=by omega
     clear hcall htz ht hxx hno hand hPa hIa ha hna ha64 hx hgt
     generalize x - 1=X1 at hx1 hx1w hbit
     obtain ⟨X2,hX2⟩:∃ X,wordN (fromP P (a+1)) i=X:=⟨_,rfl⟩
     rw [hX2] at hbit
     have HX2:=Lib.hid hX2
     clear hX2
     go_wp2_with fail
     (with_reducible refine HTZ.out.mono ?_)
     rintro e w1 ⟨rfl,hw⟩
     have hw:=hw.symm
     subst hw
     go_wp2_with fail
     (with_reducible refine HC.out.mono ?_)
     rintro e w2 ⟨rfl,hI3⟩
     have HI3:=Lib.hid hI3
     clear hI3
     go_wp2_with fail
     go_roundg (64*i+64 - (a+1))
     case measure=>have:=HQ2.out;have:=HAA.out;omega
     case rel=>exact ⟨a+1,by have:=HAA.out;omega,by have:=HAA.out;omega,by rw [HX2.out],HI3.out⟩
  ·have hix:¬ (i:Int) < (W:Int):=by omega
   have hin:decide (i < W)=false:=decide_eq_false hi
   obtain rfl:i=W:=by omega
   go_wp2_with fail
   exact ⟨rfl,.tuple #[],results_none rfl _ _ _,rfl,HI.out⟩
end Go.Proofs.YtnjagecmhdagkaaGreatDoor
namespace Go.Proofs.YtnjagecmhdagkaaGreatDoor
open Go.RowKit
def spC (g:Spn):Array Value:=(g.map fun v=>Value.int .i64 v).toArray
abbrev spV (g:Spn):Value:=.agg (spC g)
theorem spC_size (g:Spn):(spC g).size=g.length:=by simp [spC]
theorem spC_get {g:Spn} {k:Nat} (h:k < g.length):(spC g)[k]?=some (.int .i64 (g.getD k 0)):=by simp [spC,h]
theorem spC_set (g:Spn) (k:Nat) (v:Int):(spC g).setIfInBounds k (.int .i64 v)=spC (g.set k v):=by
 apply Array.toList_inj.1
 rw [Array.toList_setIfInBounds]
 simp [spC,List.map_set]
theorem spC_one (g:Spn):OneCells (spC g):=by
 unfold OneCells
 rw [Array.all_eq_true_iff_forall_mem]
 intro v hv
 simp only [spC,List.mem_toArray,List.mem_map] at hv
 obtain ⟨x,_,rfl⟩:=hv
 rfl
theorem rowSp:RowOf Tryz.prog 35 20:=⟨_,Tryz.underlying35,rfl,by kernel_rfl⟩
theorem zeroSp (w:World):(zeroValue 35).run Tryz.prog w=.ok (spV spZero) w:=by kernel_rfl
def bldSp (x:Array (Nat × Value)):Sem Value:=Instr.build 35 x
theorem bldSp_eq (x:Array (Nat × Value)):Instr.build 35 x=bldSp x:=rfl
theorem bldSp_run (w:World):(bldSp #[]).run Tryz.prog w=.ok (spV spZero) w:=by kernel_rfl
section
variable (w:World) (g o:Nat) (c:Array Value)
def ldSp (x:Value):Sem Value:=Instr.loadAt 35 x
theorem ldSp_eq (x:Value):Instr.loadAt 35 x=ldSp x:=rfl
theorem loadSp:(ldSp (.pointer (some ⟨g,o,none⟩))).run Tryz.prog w=loadPart Tryz.prog w 35 g o 20:=rfl
theorem loadSp_if:loadPart Tryz.prog w 35 g o 20=if 0 < 20∧o+20≤(blk w g).size then .ok (.agg (span (blk w g) o 20)) w else loadPartOdd Tryz.prog w 35 g o 20:=loadPart_if w _ g o 20 rowSp
def stSp (x v:Value):Sem Unit:=Instr.storeAt 35 x v
theorem stSp_eq (x v:Value):Instr.storeAt 35 x v=stSp x v:=rfl
theorem storeSp:(stSp (.pointer (some ⟨g,o,none⟩)) (.agg c)).run Tryz.prog w=storePart Tryz.prog w 35 g o c:=rfl
theorem storeSp_if (h:OneCells c):storePart Tryz.prog w 35 g o c=if 0 < 20∧o+20≤(blk w g).size∧c.size=20 then .ok () (setBlk w g (over (blk w g) o c)) else storePartOdd Tryz.prog w 35 g o c:=storePart_if w _ g o 20 c rowSp h
theorem loadSp_all (h:blk w g=c) (hs:c.size=20):loadPart Tryz.prog w 35 g 0 20=.ok (.agg c) w:=by
 rw [loadSp_if,if_pos (by rw [h];omega),span_all (by rw [h];exact hs),h]
theorem storeSp_all {d:Array Value} (h:blk w g=d) (hd:d.size=20) (hs:c.size=20) (h1:OneCells c):storePart Tryz.prog w 35 g 0 c=.ok () (setBlk w g c):=by
 rw [storeSp_if _ _ _ _ h1,if_pos (by rw [h];omega),h,over_all (by omega)]
end
structure TwoAt (w:World) (c1 c2:Array Value) (w':World):Prop where
 grows:Grows w w'
 size:w'.heap.size=w.heap.size+2
 fst:blk w' w.heap.size=c1
 snd:blk w' (w.heap.size+1)=c2
theorem TwoAt.start (w:World) (c1 c2:Array Value) (t1 t2:TypeId):TwoAt w c1 c2 ((w.alloc (.cells c1 t1)).alloc (.cells c2 t2)) :=
 ⟨((Grows.refl w).alloc _).alloc _,by simp,by
  have hb:=blk_alloc_at w c1 t1 _ rfl
  obtain ⟨m,hm⟩:=(Grows.refl (w.alloc (.cells c1 t1))).alloc (.cells c2 t2)
  rw [hm,blk_more _ _ _ (by unfold InHeap;simp)]
  exact hb,blk_alloc_at _ c2 t2 _ (by simp)⟩
theorem TwoAt.drew {w w':World} {c1 c2:Array Value} (h:TwoAt w c1 c2 w'):TwoAt w c1 c2 w'.drew:=⟨h.grows.drew,h.size,h.fst,h.snd⟩
theorem TwoAt.drewN {w w':World} {c1 c2:Array Value} (h:TwoAt w c1 c2 w') (n:Nat):TwoAt w c1 c2 (w'.drewN n):=⟨h.grows.drewN n,h.size,h.fst,h.snd⟩
structure SpIn (n:Nat) (g:Spn):Prop where
 len:g.length=20
 lo:∀ k,k < 10→-1≤spA g k∧spA g k≤spB g k∧spB g k≤n
theorem spIn_zero (n:Nat):SpIn n spZero:=⟨rfl,fun k hk=>by
 have:∀ j,spZero.getD j 0=0:=fun j=>by
  unfold spZero
  rw [List.getD_eq_getElem?_getD,List.getElem?_replicate]
  split <;> rfl
 unfold spA spB
 rw [this,this]
 omega⟩
theorem spIn_none (n:Nat):SpIn n spNone:=⟨rfl,fun k hk=>by
 have:∀ j,j < 20→spNone.getD j 0=-1:=fun j hj=>by
  unfold spNone
  rw [List.getD_eq_getElem?_getD,List.getElem?_replicate,if_pos hj]
  rfl
 unfold spA spB
 rw [this _ (by omega),this _ (by omega)]
 omega⟩
theorem sp_get_ne {g:Spn} {i j:Nat} {v:Int} (h:i≠j):(g.set i v).getD j 0=g.getD j 0:=by
 simp only [List.getD_eq_getElem?_getD,List.getElem?_set,if_neg h]
theorem sp_get_eq {g:Spn} {i:Nat} {v:Int} (h:i < g.length):(g.set i v).getD i 0=v:=by
 simp [List.getD_eq_getElem?_getD,List.getElem?_set,h]
theorem spSet_A {g:Spn} {k j:Nat} {a b:Int} (hg:g.length=20) (hk:k < 10):spA (spSet g k a b) j=if j=k then a else spA g j:=by
 unfold spA spSet
 by_cases e:j=k
 ·subst e
  rw [if_pos rfl,sp_get_ne (by omega),sp_get_eq (by omega)]
 ·rw [if_neg e,sp_get_ne (by omega),sp_get_ne (by omega)]
theorem spSet_B {g:Spn} {k j:Nat} {a b:Int} (hg:g.length=20) (hk:k < 10):spB (spSet g k a b) j=if j=k then b else spB g j:=by
 unfold spB spSet
 by_cases e:j=k
 ·subst e
  rw [if_pos rfl,sp_get_eq (by simp;omega)]
 ·rw [if_neg e,sp_get_ne (by omega),sp_get_ne (by omega)]
theorem SpIn.set {n:Nat} {g:Spn} (h:SpIn n g) {k:Nat} (hk:k < 10) {a b:Int} (h1:-1≤a) (h2:a≤b) (h3:b≤n):SpIn n (spSet g k a b) :=
 ⟨by rw [spSet_len];exact h.len,fun j hj=>by
  rw [spSet_A h.len hk,spSet_B h.len hk]
  split
  ·exact ⟨h1,h2,h3⟩
  ·exact h.lo j hj⟩
theorem spC_set2 (g:Spn) (k:Nat) (a b:Int):((spC g).setIfInBounds (2*k) (.int .i64 a)).setIfInBounds (2*k+1) (.int .i64 b)=spC (spSet g k a b):=by
 rw [spC_set,spC_set]
 rfl
def oneI (x:NdV) (s:List UInt8) (a:Nat) (g:Spn):Int:=match oneV x s a g with | none=>-1 | some k=>k
end Go.Proofs.YtnjagecmhdagkaaGreatDoor
namespace Go.Proofs.YtnjagecmhdagkaaGreatDoor
open Go.RowKit
inductive Wy where
 | nil
 | cons (long:Nat) (kids rest:Wy)
def Wy.snoc:Wy→Nat→Wy→Wy
 | .nil,l,k=>.cons l k .nil
 | .cons a b r,l,k=>.cons a b (r.snoc l k)
def Wy.len:Wy→Nat
 | .nil=>0
 | .cons _ _ r=>r.len+1
inductive Ev where
 | tick
 | out (at_:Nat) (g:Spn) (ws:Wy)
def bindE (h:Nat→Spn→Wy→List Ev):Ev→List Ev
 | .tick=>[.tick]
 | .out a g ws=>h a g ws
def evT (x:NdV) (R:Nat→Spn→List Ev) (U:Spn→Spn):Nat→Nat→Nat→Spn→Wy→List Ev
 | 0,_,_,_,_=>[]
 | F+1,d,a,g,ws=>(if x.mn≤d then [.out a g ws] else [])++(if 0≤x.mx∧x.mx≤d then [] else (R a (U g)).flatMap (bindE fun e g2 tw=>if a < e∨d < x.mn then evT x R U F (d+1) e g2 (ws.snoc (e - a) tw) else []))
def fuelK (n:Nat) (x:NdV) (a d:Nat):Nat:=(n - a)+(if x.mx < 0 then x.mn - d else x.mx.toNat - d)+1
def evR (s:List UInt8):Fr→Nat→Spn→Wy→List Ev
 | .nil,a,g,ws=>[.out a g ws]
 | .cons x k r,a,g,ws =>
  if x.kind=7 then (evR s k a g .nil).flatMap (bindE fun e g2 i=>evR s r e (spSet g2 x.n a e) (ws.snoc (e - a) i))
  else if x.kind=8 then (evT x (fun a g=>evR s k a g .nil) (unsetV k) (fuelK s.length x a 0) 0 a g .nil).flatMap (bindE fun e g2 i=>evR s r e g2 (ws.snoc (e - a) i))
  else .tick::(match oneV x s a g with
   | none=>[]
   | some n=>evR s r (a+n) g (ws.snoc n .nil))
structure Sg where
 spent:Nat
 best:Option (Spn × Wy)
def overB (fuel:Int) (σ:Sg):Bool:=decide (fuel < σ.spent)
def stepE (K:Nat→Spn→Wy→Sg→Sg) (fuel:Int) (σ:Sg) (ev:Ev):Sg :=
 if overB fuel σ then σ else match ev with
  | .tick=>{ σ with spent:=σ.spent+1 }
  | .out a g ws=>K a g ws σ
def runE (K:Nat→Spn→Wy→Sg→Sg) (fuel:Int) (l:List Ev) (σ:Sg):Sg:=l.foldl (stepE K fuel) σ
section
variable {K:Nat→Spn→Wy→Sg→Sg} {fuel:Int} {σ:Sg}
theorem run_over (l:List Ev) (h:overB fuel σ=true):runE K fuel l σ=σ:=by
 unfold runE
 induction l with
 | nil=>rfl
 | cons e l ih=>rw [List.foldl_cons,show stepE K fuel σ e=σ by unfold stepE;rw [if_pos h],ih]
theorem run_append (l m:List Ev):runE K fuel (l++m) σ=runE K fuel m (runE K fuel l σ):=List.foldl_append
theorem run_cons (e:Ev) (l:List Ev):runE K fuel (e::l) σ=runE K fuel l (stepE K fuel σ e):=rfl
theorem run_bind (h:Nat→Spn→Wy→List Ev) (l:List Ev):∀ σ,runE K fuel (l.flatMap (bindE h)) σ=runE (fun a g ws σ=>runE K fuel (h a g ws) σ) fuel l σ:=by
 induction l with
 | nil=>intro σ;rfl
 | cons e l ih =>
  intro σ
  rw [List.flatMap_cons,run_append,run_cons,ih]
  congr 1
  unfold stepE
  cases e with
  | tick=>rfl
  | out a g ws =>
   unfold bindE
   by_cases ho:overB fuel σ=true
   ·rw [if_pos ho,run_over _ ho]
   ·rw [if_neg ho]
theorem run_one (a:Nat) (g:Spn) (ws:Wy) (h:overB fuel σ=false):runE K fuel [.out a g ws] σ=K a g ws σ:=by
 simp [runE,stepE,h]
end
end Go.Proofs.YtnjagecmhdagkaaGreatDoor
namespace Go.Proofs.YtnjagecmhdagkaaGreatDoor
open Go.RowKit
attribute [local go_sem ↓] zeroNode ldNode_eq stNode_eq ldSp_eq stSp_eq zeroSp
attribute [local go_sem] loadNode loadNode_if storeNode storeNode_if ndA_one_slice loadSp loadSp_if storeSp storeSp_if spC_one tx_bt
theorem oneI_some {x:NdV} {s:List UInt8} {a:Nat} {g:Spn} {k:Nat} (h:oneV x s a g=some k):oneI x s a g=k:=by unfold oneI;rw [h]
theorem oneI_none {x:NdV} {s:List UInt8} {a:Nat} {g:Spn} (h:oneV x s a g=none):oneI x s a g=-1:=by unfold oneI;rw [h]
set_option maxRecDepth 100000 in
set_option maxHeartbeats 4000000 in
theorem one_any (x:NdV) (K:Option Addr) (kl kc:Nat) (s:List UInt8) (a:Nat) (g:Spn) (w:World) (hg:SpIn s.length g) (ha:a≤s.length) (hn:x.kind=6→x.n < 10) (hs:s.length≤60000) :
  Calls Tryz.prog 69 #[.agg (ndC x (.slice K kl kc)),.string (tx s),.int .i64 a,spV g] w fun e w'=>e=.returned (.int .i64 (oneI x s a g))∧Grows w w':=by
 have hgl:=hg.len
 have hsz:(spC g).size=20:=by rw [spC_size];exact hgl
 obtain ⟨R,hR⟩:∃ R,oneI x s a g=R:=⟨_,rfl⟩
 rw [hR]
 have HR:=Lib.hid hR
 have HG:=Lib.hid hg
 have HN:=Lib.hid hn
 clear hR hg hn
 go_enter Tryz.func69,Tryz.ntmps69
 go_upto_region 1 with fail
 have HT:=Lib.hid (TwoAt.start w (ndC x (.slice K kl kc)) (spC g) 95 35)
 generalize (w.alloc (Obj.cells (ndC x (Value.slice K kl kc)) 95)).alloc (Obj.cells (spC g) 35)=w2 at *
 have pz:0 < (ndC x (.slice K kl kc)).size:=by simp [ndA_size]
 have c0:=(Blk.cell HT.out.fst pz 0).trans (ndA_0 _ _ _ _ _ _ _)
 have c1:=(Blk.cell HT.out.fst pz 1).trans (ndA_1 _ _ _ _ _ _ _)
 have c258:=(Blk.cell HT.out.fst pz 258).trans (ndA_258 _ _ _ _ _ _ _)
 have cs:∀ c,c < 256→w2.cell? ⟨w.heap.size,2+c,none⟩=some (.bool (x.set c)):=fun c hc=>(Blk.cell HT.out.fst pz (2+c)).trans (ndA_set _ _ _ _ _ _ _ c hc)
 have cg:∀ k,k < 20→w2.cell? ⟨w.heap.size+1,k,none⟩=some (.int .i64 (g.getD k 0)):=fun k hk=>(Blk.cell HT.out.snd (by omega) k).trans (spC_get (by omega))
 have CS:=Lib.hid cs
 have CG:=Lib.hid cg
 clear cs cg pz
 by_cases h4:x.kind=4
 ·have b4:((x.kind:Int) == 4)=true:=by simp;omega
  by_cases h0:a=0
  ·have e0:((a:Int) == 0)=true:=by simp;omega
   have hR:R=0:=by rw [← HR.out];exact oneI_some (by unfold oneV;rw [if_pos h4,if_pos h0])
   subst hR
   clear HR h4 h0
   go_wp2_with fail
   go_ret
   exact ⟨rfl,HT.out.grows⟩
  ·have e0:((a:Int) == 0)=false:=by simp;omega
   have hR:R=-1:=by rw [← HR.out];exact oneI_none (by unfold oneV;rw [if_pos h4,if_neg h0])
   subst hR
   clear HR h4 h0
   go_wp2_with fail
   go_ret
   exact ⟨rfl,HT.out.grows⟩
 have b4:((x.kind:Int) == 4)=false:=by simp;omega
 by_cases h5:x.kind=5
 ·have b5:((x.kind:Int) == 5)=true:=by simp;omega
  by_cases h0:a=s.length
  ·have e0:((a:Int) == (s.length:Int))=true:=by simp;omega
   have hR:R=0:=by rw [← HR.out];exact oneI_some (by unfold oneV;rw [if_neg h4,if_pos h5,if_pos h0])
   subst hR
   clear HR h4 h5 h0
   go_wp2_with fail
   go_ret
   exact ⟨rfl,HT.out.grows⟩
  ·have e0:((a:Int) == (s.length:Int))=false:=by simp;omega
   have hR:R=-1:=by rw [← HR.out];exact oneI_none (by unfold oneV;rw [if_neg h4,if_pos h5,if_neg h0])
   subst hR
   clear HR h4 h5 h0
   go_wp2_with fail
   go_ret
   exact ⟨rfl,HT.out.grows⟩
 have b5:((x.kind:Int) == 5)=false:=by simp;omega
 by_cases h6:x.kind=6
 ·have b6:((x.kind:Int) == 6)=true:=by simp;omega
  have hnx:=HN.out h6
  have hlo:=HG.out.lo x.n hnx
  have g0:w2.cell? ⟨w.heap.size+1,x.n*2,none⟩=some (.int .i64 (spA g x.n)):=by rw [CG.out _ (by omega),Nat.mul_comm];rfl
  have g1:w2.cell? ⟨w.heap.size+1,x.n*2+1,none⟩=some (.int .i64 (spB g x.n)):=by rw [CG.out _ (by omega),Nat.mul_comm];rfl
  obtain ⟨F,hF⟩:∃ F,spA g x.n=F:=⟨_,rfl⟩
  obtain ⟨T,hT⟩:∃ T,spB g x.n=T:=⟨_,rfl⟩
  rw [hF,hT] at hlo
  rw [hF] at g0
  rw [hT] at g1
  have hV:oneV x s a g=if 0≤F∧T - F≤(s.length:Int) - a∧(s.drop F.toNat).take (T - F).toNat=(s.drop a).take (T - F).toNat then some (T - F).toNat else none:=by
   unfold oneV
   rw [if_neg h4,if_neg h5,if_pos h6,hF,hT]
  have HV:=Lib.hid hV
  have HH:=Lib.hid hlo
  have hgx:x.n*2+1 < 20:=by omega
  have hT6:T≤60000:=by omega
  have hFm:-1≤F:=hlo.1
  have hFT:F≤T:=hlo.2.1
  have hTs:T≤(s.length:Int):=hlo.2.2
  clear hV hlo hF hT h4 h5
  go_upto_region 11 with fail
  clear b4 b5 b6 h6
  by_cases hF0:0≤F
  ·obtain ⟨f,rfl⟩:∃ f:Nat,F=f:=⟨F.toNat,by omega⟩
   obtain ⟨t,rfl⟩:∃ f:Nat,T=f:=⟨T.toNat,by omega⟩
   by_cases hfit:(t:Int) - f≤(s.length:Int) - a
   ·obtain ⟨d,hd⟩:∃ d,t=f+d:=⟨t - f,by omega⟩
    have eT:(t:Int) - f=d:=by omega
    have eTn:((t:Int) - f).toNat=d:=by omega
    have hV2:oneV x s a g=if (s.drop f).take d=(s.drop a).take d then some d else none:=by
     rw [HV.out,eTn]
     simp only [Int.toNat_natCast,hF0,hfit,true_and]
    have eA:(a:Int)+t - f=((a+d:Nat):Int):=by omega
    have htl:t≤s.length:=by omega
    have hft:f≤t:=by omega
    have had:a+d≤s.length:=by omega
    have hdi:(d:Int)≤(s.length:Int) - a:=by omega
    have HV2:=Lib.hid hV2
    clear hV2 HV eTn hd hTs hFm hFT HH hT6 hfit
    have e1:(tx s).extract f t=tx ((s.drop f).take d):=by rw [tx_mid,show t - f=d by omega]
    have e2:(tx s).extract a (a+d)=tx ((s.drop a).take d):=by rw [tx_mid,Nat.add_sub_cancel_left]
    have E1:=Lib.hid e1
    have E2:=Lib.hid e2
    clear e1 e2
    by_cases hsame:(s.drop f).take d=(s.drop a).take d
    ·have hcmp:(((tx s).extract f t).toList == ((tx s).extract a (a+d)).toList)=true:=str_eq (by rw [E1.out,E2.out,hsame])
     have hR:R=d:=by rw [← HR.out];exact oneI_some (by rw [HV2.out,if_pos hsame])
     subst hR
     clear hsame HR
     go_quiet (fail)
     go_wp2_with fail
     go_quiet (fail)
     go_wp2_with fail
     go_ret
     exact ⟨rfl,by repeat' first | exact HT.out.grows | refine Grows.drewN ?_ _ | refine Grows.drew ?_⟩
    ·have hcmp:(((tx s).extract f t).toList == ((tx s).extract a (a+d)).toList)=false:=str_ne (by rw [E1.out,E2.out];exact fun e=>hsame (tx_inj e))
     have hR:R=-1:=by rw [← HR.out];exact oneI_none (by rw [HV2.out,if_neg hsame])
     subst hR
     clear hsame HR
     go_quiet (fail)
     go_wp2_with fail
     go_quiet (fail)
     go_wp2_with fail
     go_ret
     exact ⟨rfl,by repeat' first | exact HT.out.grows | refine Grows.drewN ?_ _ | refine Grows.drew ?_⟩
   ·have hR:R=-1:=by rw [← HR.out];exact oneI_none (by rw [HV.out,if_neg fun h=>hfit h.2.1])
    have hfb:decide ((t:Int) - f≤(s.length:Int) - a)=false:=decide_eq_false hfit
    subst hR
    go_quiet (fail)
    go_wp2_with fail
    go_quiet (fail)
    go_wp2_with fail
    go_ret
    exact ⟨rfl,by repeat' first | exact HT.out.grows | refine Grows.drewN ?_ _ | refine Grows.drew ?_⟩
  ·have hR:R=-1:=by rw [← HR.out];exact oneI_none (by rw [HV.out,if_neg fun h=>hF0 h.1])
   have hfb:decide (0≤F)=false:=decide_eq_false hF0
   subst hR
   go_quiet (fail)
   go_wp2_with fail
   go_quiet (fail)
   go_wp2_with fail
   go_ret
   exact ⟨rfl,by repeat' first | exact HT.out.grows | refine Grows.drewN ?_ _ | refine Grows.drew ?_⟩
 have b6:((x.kind:Int) == 6)=false:=by simp;omega
 have hV:oneV x s a g=if a < s.length∧(x.kind=2∨(x.kind=3∧x.set (ch s a)=true)∨(x.kind=1∧x.byte=ch s a)) then some 1 else none:=by
  unfold oneV
  rw [if_neg h4,if_neg h5,if_neg h6]
 have HV:=Lib.hid hV
 clear hV h4 h5 h6
 by_cases hlt:a < s.length
 ·have hbl:=bt_lt s a
  have hcs:=CS.out (bt s a) hbl
  have hch:ch s a=bt s a:=rfl
  have HV2:Hid (oneV x s a g=if x.kind=2∨(x.kind=3∧x.set (bt s a)=true)∨(x.kind=1∧x.byte=bt s a) then some 1 else none):=Lib.hid (by
   rw [HV.out,hch]
   simp only [hlt,true_and])
  clear HV hch
  obtain ⟨C,hC⟩:∃ C,bt s a=C:=⟨_,rfl⟩
  rw [hC] at hcs HV2 hbl
  by_cases h2:x.kind=2
  ·have b2:((x.kind:Int) == 2)=true:=by simp;omega
   have hR:R=1:=by rw [← HR.out];exact oneI_some (by rw [HV2.out,if_pos (.inl h2)])
   subst hR
   clear HR HV2 h2
   go_upto_region 2 with fail
   go_quiet (fail)
   go_wp2_with fail
   go_ret
   exact ⟨rfl,by repeat' first | exact HT.out.grows | refine Grows.drewN ?_ _ | refine Grows.drew ?_⟩
  have b2:((x.kind:Int) == 2)=false:=by simp;omega
  by_cases h3:x.kind=3
  ·have b3:((x.kind:Int) == 3)=true:=by simp;omega
   have b1:((x.kind:Int) == 1)=false:=by simp;omega
   cases hp:x.set C with
   | true =>
    rw [hp] at hcs
    have hR:R=1:=by rw [← HR.out];exact oneI_some (by rw [HV2.out,if_pos (.inr (.inl ⟨h3,hp⟩))])
    subst hR
    clear HR HV2 h2 h3 hp
    go_upto_region 2 with fail
    go_quiet (fail)
    go_wp2_with fail
    go_ret
    exact ⟨rfl,by repeat' first | exact HT.out.grows | refine Grows.drewN ?_ _ | refine Grows.drew ?_⟩
   | false =>
    rw [hp] at hcs
    have hR:R=-1:=by rw [← HR.out];exact oneI_none (by rw [HV2.out,if_neg];rintro (h | ⟨-,h⟩ | ⟨h,-⟩);exact h2 h;rw [hp] at h;cases h;omega)
    subst hR
    clear HR HV2 h2 h3 hp
    go_upto_region 2 with fail
    go_quiet (fail)
    go_wp2_with fail
    go_ret
    exact ⟨rfl,by repeat' first | exact HT.out.grows | refine Grows.drewN ?_ _ | refine Grows.drew ?_⟩
  have b3:((x.kind:Int) == 3)=false:=by simp;omega
  by_cases h1:x.kind=1
  ·have b1:((x.kind:Int) == 1)=true:=by simp;omega
   by_cases hb:x.byte=C
   ·have bb:((x.byte:Int) == (C:Int))=true:=by simp;omega
    have hR:R=1:=by rw [← HR.out];exact oneI_some (by rw [HV2.out,if_pos (.inr (.inr ⟨h1,hb⟩))])
    subst hR
    clear HR HV2 h1 h2 h3 hb
    go_upto_region 2 with fail
    go_quiet (fail)
    go_wp2_with fail
    go_ret
    exact ⟨rfl,by repeat' first | exact HT.out.grows | refine Grows.drewN ?_ _ | refine Grows.drew ?_⟩
   ·have bb:((x.byte:Int) == (C:Int))=false:=by simp;omega
    have hR:R=-1:=by rw [← HR.out];exact oneI_none (by rw [HV2.out,if_neg];rintro (h | ⟨h,-⟩ | ⟨-,h⟩);exact h2 h;exact h3 h;exact hb h)
    subst hR
    clear HR HV2 h1 h2 h3 hb
    go_upto_region 2 with fail
    go_quiet (fail)
    go_wp2_with fail
    go_ret
    exact ⟨rfl,by repeat' first | exact HT.out.grows | refine Grows.drewN ?_ _ | refine Grows.drew ?_⟩
  have b1:((x.kind:Int) == 1)=false:=by simp;omega
  have hR:R=-1:=by rw [← HR.out];exact oneI_none (by rw [HV2.out,if_neg];rintro (h | ⟨h,-⟩ | ⟨h,-⟩);exact h2 h;exact h3 h;exact h1 h)
  subst hR
  clear HR HV2 h1 h2 h3
  go_upto_region 2 with fail
  go_quiet (fail)
  go_wp2_with fail
  go_ret
  exact ⟨rfl,by repeat' first | exact HT.out.grows | refine Grows.drewN ?_ _ | refine Grows.drew ?_⟩
 ·have hlb:decide (a < s.length)=false:=decide_eq_false hlt
  have hR:R=-1:=by rw [← HR.out];exact oneI_none (by rw [HV.out,if_neg fun h=>hlt h.1])
  subst hR
  clear HR HV hlt
  go_upto_region 2 with fail
  go_quiet (fail)
  go_wp2_with fail
  go_ret
  exact ⟨rfl,by repeat' first | exact HT.out.grows | refine Grows.drewN ?_ _ | refine Grows.drew ?_⟩
end Go.Proofs.YtnjagecmhdagkaaGreatDoor
namespace Go.Proofs.YtnjagecmhdagkaaGreatDoor
open Go.RowKit
theorem wordsA_none (W:Nat):wordsA W (fun _=>false)=Array.replicate W (.int .u64 0):=by
 apply Array.ext_getElem?
 intro j
 by_cases hj:j < W
 ·rw [wordsA_get _ hj,word_none]
  simp [hj]
 ·rw [Array.getElem?_eq_none (by rw [wordsA_size];omega),Array.getElem?_eq_none (by simp;omega)]
def wds (n:Nat):Nat:=n / 64+1
theorem wds_le {n:Nat} (h:n≤60000):wds n≤1000:=by unfold wds;omega
theorem wds_lt {n a:Nat} (h:a≤n):a < 64*wds n:=by unfold wds;omega
theorem infoW:(Tryz.prog.info? 147).map (fun i=>(i.zero,i.size,i.bytes))=some (some (.int .u64 0),1,8):=by kernel_rfl
theorem made_words (n:Nat):madeCells #[Value.int .u64 0] (n+1)=wordsA (n+1) (fun _=>false):=by
 rw [wordsA_none]
 apply Array.ext_getElem?
 intro j
 simp [madeCells,Array.getElem?_ofFn]
 by_cases hj:j < n+1
 ·simp [hj,Nat.mod_one]
 ·simp [hj]
theorem make_words (n:Nat) (h:n≤1000) (w:World):(Instr.makeSlice 117 (.int .i64 ((n:Int)+1)) (.int .i64 ((n:Int)+1))).run Tryz.prog w=.ok (plV w.heap.size (n+1)) (w.alloc (.cells (wordsA (n+1) (fun _=>false)) 147)):=by
 have hq:=infoW
 cases hi:Tryz.prog.info? 147 with
 | none=>rw [hi] at hq;cases hq
 | some i0 =>
 rw [hi] at hq
 simp only [Option.map_some,Option.some.injEq,Prod.mk.injEq] at hq
 obtain ⟨hz0,hz1,hz2⟩:=hq
 have:=run_make (P:=Tryz.prog) w 117 147 i0 _ Tryz.underlying117 hi hz0 .i64 .i64 ((n:Int)+1) ((n:Int)+1) (by omega) (by omega) (by rw [hz2];omega) (by omega)
 rw [hz1] at this
 rw [this]
 have e:((n:Int)+1).toNat=n+1:=by omega
 rw [e,Nat.mul_one]
 rw [show (Value.int .u64 0).cells=#[Value.int .u64 0] from rfl,made_words]
set_option maxHeartbeats 1000000 in
theorem empty_any {w:World} {tb r:Nat} {s:List UInt8} (hb:blk w tb=#[.string (tx s),.map (some r)]) (hs:s.length≤60000) :
  Calls Tryz.prog 70 #[.pointer (some ⟨tb,0,none⟩)] w fun e w'=>∃ b,e=.returned (plV b (wds s.length))∧PlAt w' b (wds s.length) (fun _=>false)∧w.heap.size≤b∧Grows w w':=by
 have c0:w.cell? ⟨tb,0,none⟩=some (.string (tx s)):=Blk.cell hb (by simp) 0
 have hd:(s.length:Int) / 64=((s.length / 64:Nat):Int):=by omega
 have hwj:IntKind.i64.wrap ((s.length / 64:Nat):Int)=((s.length / 64:Nat):Int):=wrap_small (by omega) (by omega)
 have hL:s.length / 64≤1000:=by omega
 unfold wds
 generalize s.length / 64=L at *
 go_enter Tryz.func70,Tryz.ntmps70
 have hmk:=make_words L hL w
 go_wp2_with fail
 go_ret
 exact ⟨_,rfl,⟨blk_alloc_at _ _ _ _ rfl,by omega⟩,Nat.le_refl _,(Grows.refl _).alloc _⟩
def fillN (i:Nat):Spn:=List.replicate (2*i) (-1)++List.replicate (20 - 2*i) 0
theorem fillN_next {i:Nat} (h:i < 10):spSet (fillN i) i (-1) (-1)=fillN (i+1):=by
 have:∀ i:Fin 10,spSet (fillN i) i (-1) (-1)=fillN (i+1):=by decide
 exact this ⟨i,h⟩
theorem sp_put {w:World} {g k:Nat} {l:Spn} (h:blk w g=spC l) (hl:l.length=20) (a b:Int):blk ((w.setCell ⟨g,k*2,none⟩ (.int .i64 a)).setCell ⟨g,k*2+1,none⟩ (.int .i64 b)) g=spC (spSet l k a b):=by
 have hz:0 < (spC l).size:=by rw [spC_size];omega
 have h1:=pa_put h hz (k*2) (.int .i64 a)
 rw [pa_put h1 (by rw [Array.size_setIfInBounds];exact hz),Nat.mul_comm k 2]
 exact spC_set2 l k a b
theorem sp_chg (w:World) (g k:Nat) (a b:Value):Chg (fun x=>x=g) w ((w.setCell ⟨g,k*2,none⟩ a).setCell ⟨g,k*2+1,none⟩ b):=(chg_cell _ _ _ _).trans (chg_cell _ _ _ _)
theorem fillN_len (i:Nat) (h:i≤10):(fillN i).length=20:=by simp [fillN];omega
attribute [local go_sem ↓] ldSp_eq stSp_eq zeroSp
attribute [local go_sem] loadSp loadSp_if storeSp storeSp_if spC_one
theorem loadVarSp {w:World} {g:Nat} {c:Array Value} (h:blk w g=c) (hc:c.size=20):(loadVar 35 ⟨g,0,none⟩).run Tryz.prog w=.ok (.agg c) w:=by
 have h1:=loadSp_all w g c h hc
 have h2:(Instr.loadAt 35 (.pointer (some ⟨g,0,none⟩))).run Tryz.prog w=_:=h1
 simpa [Instr.loadAt,Instr.sureAddr] using h2
theorem results_sp {fn:Func} {T:Array Value} {w:World} {b:Nat} {c:Array Value} (k:Nat) (h:fn.results=#[.cell k 35]) (hT:T.getD k undef=.pointer (some ⟨b,0,none⟩)) (hb:blk w b=c) (hc:c.size=20):(results fn T).run Tryz.prog w=.ok (.agg c) w:=by
 have:=loadVarSp hb hc
 rw [Array.getD_eq_getD_getElem?] at hT
 simp [results,h,hT,asAddr,this]
set_option maxHeartbeats 1000000 in
theorem none_any (w:World):Calls Tryz.prog 41 #[] w fun e w'=>e=.returned (spV spNone)∧Grows w w':=by
 go_enter Tryz.func41,Tryz.ntmps41
 go_wp2_with fail
 have hb0:blk (w.alloc (.cells (spC spZero) 35)) w.heap.size=spC (fillN 0):=blk_alloc_at _ _ _ _ rfl
 have hg0:Grows w (w.alloc (.cells (spC spZero) 35)):=(Grows.refl _).alloc _
 generalize w.alloc (.cells (spC spZero) 35)=w0 at *
 go_loopg [1,2] 10 (fun q v1 v2 wr=>∃ i:Nat,q+i=10∧v2=.int .i64 i∧blk wr w.heap.size=spC (fillN i)∧Chg (fun b=>b=w.heap.size) w0 wr)
 case atStart=>exact ⟨0,by omega,rfl,hb0,Chg.refl _ _⟩
 case round =>
  obtain ⟨i,hq,rfl,hb,hc⟩:=hrel
  have HB:=Lib.hid hb
  have HC:=Lib.hid hc
  have hi10:i≤10:=by omega
  have hl:=fillN_len i hi10
  have hz:0 < (spC (fillN i)).size:=by rw [spC_size,hl];decide
  have ig:InHeap w.heap.size wr:=Blk.inHeap hb hz
  have hfr:∀ k,wr.frozen? ⟨w.heap.size,k,none⟩=false:=fun k=>Blk.free hb hz k
  by_cases hi:i < 10
  ·have d0:=(Blk.cell hb hz (i*2)).trans (spC_get (by omega))
   have d1:=(Blk.cell hb hz (i*2+1)).trans (spC_get (by omega))
   have hii:(i:Int) < 10:=by omega
   have hn:=fillN_next hi
   have HN:=Lib.hid hn
   have HL:=Lib.hid hl
   clear hb hc hz hl hn hi10
   generalize (fillN i).getD (i*2) 0=e0 at d0
   generalize (fillN i).getD (i*2+1) 0=e1 at d1
   go_wp2_with fail
   go_roundg (gk - 1)
   case measure=>omega
   case rel=>exact ⟨i+1,by omega,by simp,by rw [← HN.out];exact sp_put HB.out HL.out _ _,HC.out.trans (sp_chg _ _ _ _ _)⟩
  ·have hii:¬ (i:Int) < 10:=by omega
   have hin:decide (i < 10)=false:=decide_eq_false hi
   have hI:i=10:=by omega
   have hf:fillN i=spNone:=by rw [hI];decide
   have HF:=Lib.hid hf
   rw [hf] at hb hz hl
   have hl2:=loadSp_all wr w.heap.size (spC spNone) hb (by rw [spC_size];rfl)
   have hl3:=storeSp_all wr w.heap.size (spC spNone) hb (by rw [spC_size];rfl) (by rw [spC_size];rfl) (spC_one _)
   rw [Blk.same hb hz] at hl3
   clear hI hf hl hz hb hi10 hq
   go_wp2_with fail
   exact bodyPost_ret (results_sp 0 rfl rfl (by rw [HB.out,HF.out]) (by rw [spC_size];rfl)) rfl ⟨rfl,Chg.grows (n:=0) hg0 HC.out fun b e=>by subst e;exact Nat.le_refl _⟩
end Go.Proofs.YtnjagecmhdagkaaGreatDoor
