/-
 Several texts of the proof: MatRfT, BreNodesM, ClsDoes, BreSame, MatDa.
-/
import Derived.Test.YtnjagecmhdagkaaGreatDoorPk31
import Derived.Test.YtnjagecmhdagkaaGreatDoorPk16
import Derived.Test.YtnjagecmhdagkaaGreatDoorPk11
import Derived.Test.YtnjagecmhdagkaaGreatDoorPk34
import Derived.Test.YtnjagecmhdagkaaGreatDoorPk26
set_option linter.unusedSimpArgs false
set_option linter.unusedVariables false
set_option maxRecDepth 3000
/-
  Matches, the document's way by all ways, in plain words: where states lie, how many there are, what is spent.
-/
namespace Go.Proofs.YtnjagecmhdagkaaGreatDoor
open Go.RowKit
def nodeR10 (s:List UInt8) (most:Int) (x:NdV) (k:Fr) (a:Nat) (g:Spn) (n:Nat):List St × Nat :=
 if x.kind=7 then (((rowR10 s most k a g n).1.map fun t=>(t.1,spSet t.2.1 x.n a t.1,.cons (t.1 - a) t.2.2 .nil)),(rowR10 s most k a g n).2)
 else if x.kind=8 then (((turnR most x (fun a g n=>rowR10 s most k a g n) (unsetV k) (fuelK s.length x a 0) 0 a g n).1.map fun t=>(t.1,t.2.1,.cons (t.1 - a) t.2.2 .nil)),(turnR most x (fun a g n=>rowR10 s most k a g n) (unsetV k) (fuelK s.length x a 0) 0 a g n).2)
 else match oneV x s a g with
  | none=>([],n+1)
  | some m=>([(a+m,g,.cons m .nil .nil)],n+1)
theorem rowR10_cons {s:List UInt8} {most:Int} {x:NdV} {k r:Fr} {a:Nat} {g:Spn} {n:Nat}:rowR10 s most (.cons x k r) a g n=if ovN most n then ([(a,g,.nil)],n) else eachR (fun e g2 n=>rowR10 s most r e g2 n) (fun t=>t.2.2) (nodeR10 s most x k a g n).1 (nodeR10 s most x k a g n).2:=by
 rw [rowR10]
 rfl
theorem each_mem {K:Nat→Spn→Nat→List St × Nat} {f:St→Wy}:∀ {l:List St} {n:Nat} {u:St},u ∈ (eachR K f l n).1→∃ t ∈ l,∃ (m:Nat) (v:St),v ∈ (K t.1 t.2.1 m).1∧u=(v.1,v.2.1,(f t).app v.2.2)
 | [],n,u,h=>by cases h
 | t::l,n,u,h=>by
  simp only [eachR,List.mem_append] at h
  rcases h with h | h
  ·simp only [addW,List.mem_map] at h
   obtain ⟨v,hv,rfl⟩:=h
   exact ⟨t,by simp,n,v,hv,rfl⟩
  ·obtain ⟨t2,h1,m,v,h2,h3⟩:=each_mem h
   exact ⟨t2,by simp [h1],m,v,h2,h3⟩
theorem Wy.len_app:∀ a b:Wy,(a.app b).len=a.len+b.len
 | .nil,b=>by simp [Wy.app,Wy.len]
 | .cons l k r,b=>by simp only [Wy.app,Wy.len,Wy.len_app r b];omega
def InS (n a m:Nat) (L:List St):Prop:=∀ t ∈ L,a≤t.1∧t.1≤n∧SpIn n t.2.1∧t.2.2.len≤m
theorem unset_inS {n:Nat}:∀ {f:Fr} {g:Spn},AllNd f→SpIn n g→SpIn n (unsetV f g):=by
 intro f
 induction f with
 | nil=>intro g _ h;exact h
 | cons x k r ihk ihr =>
  intro g hf h
  obtain ⟨hx,hk,hr⟩:=hf
  simp only [unsetV]
  refine ihr hr (ihk hk ?_)
  split
  ·rename_i h7
   exact h.set hx.n (by omega) (by omega) (by omega)
  ·exact h
theorem turn_in {n:Nat} {most:Int} {x:NdV} {R:Nat→Spn→Nat→List St × Nat} {U:Spn→Spn} {M:Nat} (hR:∀ a g m,a≤n→SpIn n g→InS n a M (R a g m).1) (hU:∀ g,SpIn n g→SpIn n (U g)):∀ (F d a:Nat) (g:Spn) (m:Nat),a≤n→SpIn n g→InS n a F (turnR most x R U F d a g m).1:=by
 intro F
 induction F with
 | zero=>intro d a g m _ _ t ht;cases ht
 | succ F ih =>
  intro d a g m ha hg t ht
  have hself:∀ t,t ∈ (if x.mn≤d then [(a,g,Wy.nil)] else [])→a≤t.1∧t.1≤n∧SpIn n t.2.1∧t.2.2.len≤F+1:=fun t ht=>by
   split at ht
   ·rw [List.mem_singleton] at ht;subst ht;exact ⟨Nat.le_refl _,ha,hg,Nat.zero_le _⟩
   ·cases ht
  unfold turnR at ht
  split at ht
  ·exact hself t ht
  ·rcases List.mem_append.1 ht with ht | ht
   ·exact hself t ht
   ·obtain ⟨t2,h1,m2,v,h2,rfl⟩:=each_mem ht
    obtain ⟨q1,q2,q3,_⟩:=hR a (U g) m ha (hU g hg) t2 ((List.mem_filter.1 h1).1)
    obtain ⟨p1,p2,p3,p4⟩:=ih (d+1) t2.1 t2.2.1 m2 q2 q3 v h2
    exact ⟨by dsimp only;omega,p2,p3,by dsimp only;simp only [Wy.app,Wy.len];omega⟩
theorem row_in {s:List UInt8} {most:Int}:∀ (f:Fr) (a:Nat) (g:Spn) (m:Nat),AllNd f→a≤s.length→SpIn s.length g→InS s.length a f.len (rowR10 s most f a g m).1:=by
 intro f
 induction f with
 | nil=>intro a g m _ ha hg t ht;simp only [rowR10,List.mem_singleton] at ht;subst ht;exact ⟨Nat.le_refl _,ha,hg,Nat.zero_le _⟩
 | cons x k r ihk ihr =>
  intro a g m hf ha hg t ht
  obtain ⟨hx,hk,hr⟩:=hf
  rw [rowR10_cons] at ht
  split at ht
  ·rw [List.mem_singleton] at ht;subst ht;exact ⟨Nat.le_refl _,ha,hg,Nat.zero_le _⟩
  ·obtain ⟨t2,h1,m2,v,h2,rfl⟩:=each_mem ht
   have hn:a≤t2.1∧t2.1≤s.length∧SpIn s.length t2.2.1∧t2.2.2.len≤1:=by
    unfold nodeR10 at h1
    split at h1
    ·rename_i h7
     rw [List.mem_map] at h1
     obtain ⟨u,hu,rfl⟩:=h1
     obtain ⟨q1,q2,q3,_⟩:=ihk a g m hk ha hg u hu
     exact ⟨q1,q2,q3.set hx.n (by omega) (by omega) (by omega),by simp [Wy.len]⟩
    ·split at h1
     ·rw [List.mem_map] at h1
      obtain ⟨u,hu,rfl⟩:=h1
      obtain ⟨q1,q2,q3,_⟩:=turn_in (M:=k.len) (fun a g m ha hg=>ihk a g m hk ha hg) (fun g hg=>unset_inS hk hg) _ _ a g m ha hg u hu
      exact ⟨q1,q2,q3,by simp [Wy.len]⟩
     ·split at h1
      ·cases h1
      ·rename_i j hj
       rw [List.mem_singleton] at h1
       subst h1
       exact ⟨by dsimp only;omega,oneV_le hj ha,hg,by simp [Wy.len]⟩
   obtain ⟨q1,q2,q3,q4⟩:=hn
   obtain ⟨p1,p2,p3,p4⟩:=ihr t2.1 t2.2.1 m2 hr q2 q3 v h2
   exact ⟨by dsimp only;omega,p2,p3,by dsimp only;rw [Wy.len_app];simp only [Fr.len];omega⟩
def awayS (a:Nat) (L:List St):List St:=L.filter fun t=>!decide (t.1=a)
theorem away_app (a:Nat) (L M:List St):awayS a (L++M)=awayS a L++awayS a M:=by simp [awayS]
theorem away_le (a:Nat) (L:List St):(awayS a L).length≤L.length:=List.length_filter_le _ _
def CntS (a n:Nat) (R:List St × Nat):Prop:=R.1.length+n≤1+R.2∧(awayS a R.1).length+n≤R.2
theorem away_addW (a:Nat) (w:Wy) (L:List St):(awayS a (addW w L)).length=(awayS a L).length:=by
 induction L with
 | nil=>rfl
 | cons t L ih =>
  simp only [addW,List.map_cons,awayS,List.filter_cons] at ih ⊢
  split
  ·simp only [List.length_cons];omega
  ·exact ih
theorem away_map (a:Nat) (φ:St→St) (hφ:∀ t,(φ t).1=t.1) (L:List St):(awayS a (L.map φ)).length=(awayS a L).length:=by
 induction L with
 | nil=>rfl
 | cons t L ih =>
  simp only [List.map_cons,awayS,List.filter_cons,hφ] at ih ⊢
  split
  ·simp only [List.length_cons];omega
  ·exact ih
theorem each_cnt {K:Nat→Spn→Nat→List St × Nat} {f:St→Wy} (hK:∀ a g n,CntS a n (K a g n)) (a:Nat):∀ (l:List St) (n:Nat),(eachR K f l n).1.length+n≤l.length+(eachR K f l n).2∧(awayS a (eachR K f l n).1).length+n≤(awayS a l).length+(eachR K f l n).2
 | [],n=>by simp [eachR,awayS]
 | t::l,n=>by
  obtain ⟨h1,h2⟩:=hK t.1 t.2.1 n
  obtain ⟨r1,r2⟩:=each_cnt (f:=f) hK a l (K t.1 t.2.1 n).2
  simp only [eachR,List.length_append,away_app,away_addW]
  have e1:(addW (f t) (K t.1 t.2.1 n).1).length=(K t.1 t.2.1 n).1.length:=by simp [addW]
  rw [e1]
  refine ⟨by simp only [List.length_cons];omega,?_⟩
  by_cases ht:t.1=a
  ·rw [ht] at h2 r2 ⊢
   have e2:awayS a (t::l)=awayS a l:=by simp [awayS,ht]
   rw [e2]
   omega
  ·have e2:awayS a (t::l)=t::awayS a l:=by simp [awayS,ht]
   rw [e2,List.length_cons]
   have:=away_le a (K t.1 t.2.1 n).1
   omega
theorem turn_cnt {most:Int} {x:NdV} {R:Nat→Spn→Nat→List St × Nat} {U:Spn→Spn} (hR:∀ a g n,CntS a n (R a g n)):∀ (F d a:Nat) (g:Spn) (n:Nat),CntS a n (turnR most x R U F d a g n):=by
 intro F
 induction F with
 | zero=>intro d a g n;simp [CntS,turnR,awayS]
 | succ F ih =>
  intro d a g n
  unfold turnR
  by_cases hd:x.mn≤d
  ·rw [if_pos hd]
   split
   ·simp [CntS,awayS];try omega
   ·obtain ⟨h1,h2⟩:=hR a (U g) n
    have ef:((R a (U g) n).1.filter fun t=>!(decide (x.mn≤d) && decide (t.1=a)))=awayS a (R a (U g) n).1:=by simp [awayS,hd]
    rw [ef]
    obtain ⟨r1,r2⟩:=each_cnt (f:=fun t=>Wy.cons (t.1 - a) t.2.2 .nil) (fun e g2 n=>ih (d+1) e g2 n) a (awayS a (R a (U g) n).1) (R a (U g) n).2
    unfold CntS
    simp only [away_app,List.length_append]
    have e3:awayS a [(a,g,Wy.nil)]=[]:=by simp [awayS]
    rw [e3]
    have:=away_le a (eachR (fun e g2 n=>turnR most x R U F (d+1) e g2 n) (fun t=>Wy.cons (t.1 - a) t.2.2 .nil) (awayS a (R a (U g) n).1) (R a (U g) n).2).1
    simp only [List.length_cons,List.length_nil]
    omega
  ·rw [if_neg hd]
   split
   ·simp [CntS,awayS]
   ·obtain ⟨h1,h2⟩:=hR a (U g) n
    have ef:((R a (U g) n).1.filter fun t=>!(decide (x.mn≤d) && decide (t.1=a)))=(R a (U g) n).1:=by simp [hd]
    rw [ef]
    obtain ⟨r1,r2⟩:=each_cnt (f:=fun t=>Wy.cons (t.1 - a) t.2.2 .nil) (fun e g2 n=>ih (d+1) e g2 n) a (R a (U g) n).1 (R a (U g) n).2
    unfold CntS
    simp only [List.nil_append]
    omega
theorem row_cnt {s:List UInt8} {most:Int}:∀ (f:Fr) (a:Nat) (g:Spn) (n:Nat),CntS a n (rowR10 s most f a g n):=by
 intro f
 induction f with
 | nil=>intro a g n;simp [CntS,rowR10,awayS];try omega
 | cons x k r ihk ihr =>
  intro a g n
  rw [rowR10_cons]
  split
  ·simp [CntS,awayS];try omega
  ·have hn:CntS a n (nodeR10 s most x k a g n):=by
    unfold nodeR10
    split
    ·obtain ⟨h1,h2⟩:=ihk a g n
     exact ⟨by simpa using h1,by have:=away_map a (fun t:St=>(t.1,spSet t.2.1 x.n a t.1,Wy.cons (t.1 - a) t.2.2 .nil)) (fun t=>rfl) (rowR10 s most k a g n).1;dsimp only at this ⊢;omega⟩
    ·split
     ·obtain ⟨h1,h2⟩:=turn_cnt (most:=most) (x:=x) (U:=unsetV k) (R:=fun a g n=>rowR10 s most k a g n) (fun a g n=>ihk a g n) (fuelK s.length x a 0) 0 a g n
      exact ⟨by simpa using h1,by have:=away_map a (fun t:St=>(t.1,t.2.1,Wy.cons (t.1 - a) t.2.2 .nil)) (fun t=>rfl) (turnR most x (fun a g n=>rowR10 s most k a g n) (unsetV k) (fuelK s.length x a 0) 0 a g n).1;dsimp only at this ⊢;omega⟩
     ·split
      ·simp [CntS,awayS];try omega
      ·rename_i j hj
       have:=away_le a [(a+j,g,Wy.cons j .nil .nil)]
       unfold CntS
       simp only [List.length_cons,List.length_nil] at this ⊢
       omega
   obtain ⟨h1,h2⟩:=hn
   obtain ⟨r1,r2⟩:=each_cnt (f:=fun t=>t.2.2) (K:=fun e g2 n=>rowR10 s most r e g2 n) (fun e g2 n=>ihr e g2 n) a (nodeR10 s most x k a g n).1 (nodeR10 s most x k a g n).2
   unfold CntS
   omega
theorem each_top {B:Nat} {K:Nat→Spn→Nat→List St × Nat} {f:St→Wy} (hK:∀ a g n,n≤B→(K a g n).2≤B):∀ (l:List St) (n:Nat),n≤B→(eachR K f l n).2≤B
 | [],n,h=>h
 | t::l,n,h=>each_top hK l _ (hK _ _ _ h)
theorem turn_top {B:Nat} {most:Int} {x:NdV} {R:Nat→Spn→Nat→List St × Nat} {U:Spn→Spn} (hR:∀ a g n,n≤B→(R a g n).2≤B):∀ (F d a:Nat) (g:Spn) (n:Nat),n≤B→(turnR most x R U F d a g n).2≤B:=by
 intro F
 induction F with
 | zero=>intro d a g n h;exact h
 | succ F ih =>
  intro d a g n h
  unfold turnR
  split
  ·exact h
  ·exact each_top (fun e g2 n=>ih (d+1) e g2 n) _ _ (hR _ _ _ h)
theorem row_top {s:List UInt8} {most:Int} {B:Nat} (hB:∀ n,ovN most n=false→n+1≤B):∀ (f:Fr) (a:Nat) (g:Spn) (n:Nat),n≤B→(rowR10 s most f a g n).2≤B:=by
 intro f
 induction f with
 | nil=>intro a g n h;exact h
 | cons x k r ihk ihr =>
  intro a g n h
  rw [rowR10_cons]
  split
  ·exact h
  ·rename_i ho
   have ho2:n+1≤B:=hB n (by simpa using ho)
   have hn:(nodeR10 s most x k a g n).2≤B:=by
    unfold nodeR10
    split
    ·exact ihk a g n h
    ·split
     ·exact turn_top (fun a g n h=>ihk a g n h) _ _ _ _ _ h
     ·split <;> exact ho2
   exact each_top (fun e g2 n h=>ihr e g2 n h) _ _ hn
theorem each_app {K:Nat→Spn→Nat→List St × Nat} {f:St→Wy}:∀ (l m:List St) (n:Nat),eachR K f (l++m) n=((eachR K f l n).1++(eachR K f m (eachR K f l n).2).1,(eachR K f m (eachR K f l n).2).2)
 | [],m,n=>rfl
 | t::l,m,n=>by simp only [List.cons_append,eachR,each_app l m,List.append_assoc]
end Go.Proofs.YtnjagecmhdagkaaGreatDoor
namespace Go.Proofs.YtnjagecmhdagkaaGreatDoor
open Go.RowKit
def wsA (many groups:Int) (p:Nat→Bool) (bad refs:Bool):Array Value :=
 #[.int .i64 many,.int .i64 groups,.bool (p 0),.bool (p 1),.bool (p 2),.bool (p 3),.bool (p 4),.bool (p 5),.bool (p 6),.bool (p 7),.bool (p 8),.bool (p 9),.bool bad,.bool refs]
section
variable (many groups:Int) (p:Nat→Bool) (bad refs:Bool)
theorem wsA_size:(wsA many groups p bad refs).size=14:=rfl
end
section
variable {w:World} {g:Nat} {many groups:Int} {p:Nat→Bool} {bad refs:Bool}
def WsAt (w:World) (g:Nat) (many groups:Int) (p:Nat→Bool) (bad refs:Bool):Prop:=blk w g=wsA many groups p bad refs
theorem WsAt.inh (h:WsAt w g many groups p bad refs):InHeap g w:=Blk.inHeap h (by rw [wsA_size];omega)
theorem WsAt.cell (h:WsAt w g many groups p bad refs) (i:Nat):w.cell? ⟨g,i,none⟩=(wsA many groups p bad refs)[i]?:=Blk.cell h (by rw [wsA_size];omega) i
theorem WsAt.cells (h:WsAt w g many groups p bad refs):w.cell? ⟨g,0,none⟩=some (.int .i64 many)∧w.cell? ⟨g,1,none⟩=some (.int .i64 groups)∧w.cell? ⟨g,12,none⟩=some (.bool bad)∧w.cell? ⟨g,13,none⟩=some (.bool refs) :=
 ⟨h.cell 0,h.cell 1,h.cell 12,h.cell 13⟩
theorem WsAt.alloc (h:WsAt w g many groups p bad refs) (o:Obj):WsAt (w.alloc o) g many groups p bad refs :=
 (blk_alloc_past _ _ _ h.inh).trans h
theorem WsAt.grows {w':World} (h:WsAt w g many groups p bad refs) (hg:Grows w w'):WsAt w' g many groups p bad refs:=by
 have:=h.inh
 obtain ⟨m,rfl⟩:=hg
 exact (blk_more _ _ _ this).trans h
end
structure Nb (wr W:World) (g nb:Nat) (C:Array Value):Prop where
 lt:g < nb
 cells:blk W nb=C
 size:C.size=262
 chg:Chg (fun b=>b=g) wr W
section
variable {wr W W':World} {g nb:Nat} {C:Array Value}
theorem Nb.inh (h:Nb wr W g nb C):InHeap nb W:=Blk.inHeap h.cells (by rw [h.size];omega)
theorem Nb.cell (h:Nb wr W g nb C) (j:Nat):W.cell? ⟨nb,j,none⟩=C[j]?:=Blk.cell h.cells (by rw [h.size];omega) j
theorem Nb.step (h:Nb wr W g nb C) (hc:Chg (fun b=>b=g) W W'):Nb wr W' g nb C :=
 ⟨h.lt,(chg_blk hc h.inh (by have:=h.lt;omega)).trans h.cells,h.size,h.chg.trans hc⟩
theorem Nb.start (hg:InHeap g wr) (hc:Chg (fun b=>b=g) wr W) (hz:W.heap.size=wr.heap.size) (hs:C.size=262) (t:TypeId):Nb wr (W.alloc (.cells C t)) g wr.heap.size C :=
 ⟨hg,blk_alloc_at _ _ _ _ hz.symm,hs,hc.trans (Chg.of_grows ((Grows.refl _).alloc _))⟩
end
theorem WsAt.drewN {w:World} {g:Nat} {many groups:Int} {p:Nat→Bool} {bad refs:Bool} (h:WsAt w g many groups p bad refs) (n:Nat):WsAt (w.drewN n) g many groups p bad refs:=h
end Go.Proofs.YtnjagecmhdagkaaGreatDoor
namespace Go.Proofs.YtnjagecmhdagkaaGreatDoor
open Go.RowKit
attribute [local go_sem] tx_bt tx_from SA_getElem
attribute [local go_sem ↓] zero22
def cnt (p:Nat→Bool):Nat→Nat
 | 0=>0
 | j+1=>cnt p j+if p j then 1 else 0
theorem equal22 (w:World) (p:Nat→Bool):(Op.equalIn 10000 89 (.agg (SA p)) (.agg (SA p))).run Tryz.prog w=.ok true w:=by
 refine run_equalIn_array_same w 9999 89 4 256 (SA p) Tryz.underlying89 Tryz.sizeOf4 fun i hi=>⟨.bool (p i),fun w=>⟨?_,?_⟩⟩
 ·simp [go_sem,hi]
 ·simp [go_sem]
end Go.Proofs.YtnjagecmhdagkaaGreatDoor
namespace Go.Proofs.YtnjagecmhdagkaaGreatDoor
open Go.RowKit
theorem row22:RowOf Tryz.prog 89 256:=⟨_,Tryz.underlying89,rfl,by kernel_rfl⟩
def ld22 (x:Value):Sem Value:=Instr.loadAt 89 x
theorem ld22_eq (x:Value):Instr.loadAt 89 x=ld22 x:=rfl
section
variable (w:World) (g o:Nat)
theorem load22:(ld22 (.pointer (some ⟨g,o,none⟩))).run Tryz.prog w=loadPart Tryz.prog w 89 g o 256:=rfl
theorem load22_if:loadPart Tryz.prog w 89 g o 256=if 0 < 256∧o+256≤(blk w g).size then .ok (.agg (span (blk w g) o 256)) w else loadPartOdd Tryz.prog w 89 g o 256:=loadPart_if w _ g o 256 row22
end
theorem node_loadR {w:World} {b o:Nat} {c:Array Value} (hc:c.size=262) (h:∀ j u,c[j]?=some u→w.cell? ⟨b,o+j,none⟩=some u):loadPart Tryz.prog w 91 b o 262=.ok (.agg c) w:=by
 obtain ⟨d,hu,hd,hi⟩:=rowNodeR
 unfold loadPart
 simp only [Instr.loadAt,Instr.sureAddr,Sem.run_bind,Sem.run_pure,Result.andThen_ok]
 exact run_loadVar_cells w b o 91 c.toList d (fun j v hv=>h j v (by rw [← Array.getElem?_toList];exact hv)) hu hd (by rw [hi];simp [hc])
attribute [local go_sem ↓] zeroNode zeroNodeR ldNode_eq stNode_eq ldNodeR_eq stNodeR_eq ld22_eq
attribute [local go_sem] loadNode storeNode storeNode_if loadNodeR storeNodeR storeNodeR_if load22 load22_if equal22
end Go.Proofs.YtnjagecmhdagkaaGreatDoor
namespace Go.Proofs.YtnjagecmhdagkaaGreatDoor
open Go.RowKit
def daC (s:List UInt8) (spent:Nat) (most:Int):Array Value:=#[.string (tx s),.int .i64 spent,.int .i64 most]
set_option maxHeartbeats 1000000 in
theorem over_anyD (w:World) (sb:Nat) (s:List UInt8) (spent:Nat) (most:Int) (hb:blk w sb=daC s spent most) :
  Calls Tryz.prog 30 #[.pointer (some ⟨sb,0,none⟩)] w fun e w'=>e=.returned (.bool (ovN most spent))∧Grows w w':=by
 have c1:w.cell? ⟨sb,1,none⟩=some (.int .i64 spent):=Blk.cell hb (by simp [daC]) 1
 have c2:w.cell? ⟨sb,2,none⟩=some (.int .i64 most):=Blk.cell hb (by simp [daC]) 2
 have ig:InHeap sb w:=Blk.inHeap hb (by simp [daC])
 clear hb
 by_cases h:0≤most
 ·have e:ovN most spent=decide (most < (spent:Int)):=by unfold ovN;rw [decide_eq_true h,Bool.true_and]
  have E:=Lib.hid e
  rw [e]
  clear e
  go_enter Tryz.func30,Tryz.ntmps30
  go_upto_region 1 with fail
  go_quiet (fail)
  go_wp2_with fail
  go_ret
  exact ⟨rfl,by repeat' first | exact Grows.refl _ | refine Grows.drewN ?_ _ | refine Grows.drew ?_⟩
 ·have hb:decide (0≤most)=false:=decide_eq_false h
  have e:ovN most spent=false:=by unfold ovN;rw [hb,Bool.false_and]
  rw [e]
  clear e
  go_enter Tryz.func30,Tryz.ntmps30
  go_upto_region 1 with fail
  go_quiet (fail)
  go_wp2_with fail
  go_ret
  exact ⟨rfl,by repeat' first | exact Grows.refl _ | refine Grows.drewN ?_ _ | refine Grows.drew ?_⟩
def stC (a:Int) (g:Spn) (v:Value):Array Value:=#[.int .i64 a]++spC g++#[v]
section
variable {a:Int} {g:Spn} {v:Value}
theorem stC_size (h:g.length=20):(stC a g v).size=22:=by simp [stC,spC_size,h]
theorem stC_0:(stC a g v)[0]?=some (.int .i64 a):=by
 unfold stC
 rw [Array.getElem?_append_left (by simp;omega),Array.getElem?_append_left (by simp)]
 rfl
theorem stC_sp (h:g.length=20) {j:Nat} (hj:j < 20):(stC a g v)[1+j]?=(spC g)[j]?:=by
 unfold stC
 rw [Array.getElem?_append_left (by simp [spC_size,h];omega),Array.getElem?_append_right (by simp)]
 simp
theorem stC_21 (h:g.length=20):(stC a g v)[21]?=some v:=by
 unfold stC
 rw [Array.getElem?_append_right (by simp [spC_size,h])]
 simp [spC_size,h]
theorem stC_one (hv:v.oneCell'=true):OneCells (stC a g v):=by
 have h1:=spC_one g
 unfold OneCells at h1 ⊢
 rw [Array.all_eq_true_iff_forall_mem] at h1 ⊢
 intro x hx
 simp only [stC,Array.mem_append,List.mem_toArray,List.mem_singleton] at hx
 rcases hx with (rfl | hx) | rfl
 ·rfl
 ·exact h1 x hx
 ·exact hv
end
def StRow (ok:Nat→Prop) (w:World):List St→List Value→Prop
 | [],xs=>xs=[]
 | t::l,xs=>∃ (A:Option Addr) (cap:Nat) (zs:List Value),xs=(stC t.1 t.2.1 (.slice A t.2.2.len cap)).toList++zs∧t.2.1.length=20∧WyAt ok w A cap t.2.2∧StRow ok w l zs
section
variable {ok ok2 q:Nat→Prop} {w w':World} {A:Option Addr} {cap:Nat}
theorem StRow.chg (hc:Chg q w w') (hp:∀ b,b < w.heap.size→ok b→¬ q b):∀ {l:List St} {xs:List Value},StRow ok w l xs→StRow ok w' l xs
 | [],_,h=>h
 | _::_,_,⟨A,cap,zs,e,h1,h2,h3⟩=>⟨A,cap,zs,e,h1,h2.chg hc hp,h3.chg hc hp⟩
theorem StRow.mono (ho:∀ b,b < w.heap.size→ok b→ok2 b):∀ {l:List St} {xs:List Value},StRow ok w l xs→StRow ok2 w l xs
 | [],_,h=>h
 | _::_,_,⟨A,cap,zs,e,h1,h2,h3⟩=>⟨A,cap,zs,e,h1,h2.mono ho,h3.mono ho⟩
theorem StRow.app {m:List St} {ys:List Value} (hm:StRow ok w m ys):∀ {l:List St} {xs:List Value},StRow ok w l xs→StRow ok w (l++m) (xs++ys)
 | [],xs,h=>by cases h;exact hm
 | t::l,xs,⟨A,cap,zs,e,h1,h2,h3⟩=>⟨A,cap,zs++ys,by rw [e,List.append_assoc],h1,h2,StRow.app hm h3⟩
theorem StRow.one {t:St} (h1:t.2.1.length=20) (h2:WyAt ok w A cap t.2.2):StRow ok w [t] (stC t.1 t.2.1 (.slice A t.2.2.len cap)).toList:=⟨A,cap,[],by simp,h1,h2,rfl⟩
theorem StRow.at {t:St} {c:List St}:∀ {a:List St} {xs:List Value},StRow ok w (a++t::c) xs→∃ (A:Option Addr) (cap:Nat) (ys zs:List Value),xs=ys++((stC t.1 t.2.1 (.slice A t.2.2.len cap)).toList++zs)∧ys.length=a.length*22∧t.2.1.length=20∧WyAt ok w A cap t.2.2∧StRow ok w a ys∧StRow ok w c zs
 | [],xs,⟨A,cap,zs,e,h1,h2,h3⟩=>⟨A,cap,[],zs,by rw [e];rfl,by simp,h1,h2,rfl,h3⟩
 | u::a,xs,⟨A0,cap0,zs0,e,g1,g2,g3⟩=>by
  obtain ⟨A,cap,ys,zs,e2,k1,k2,k3,k4,k5⟩:=StRow.at (a:=a) g3
  refine ⟨A,cap,(stC u.1 u.2.1 (.slice A0 u.2.2.len cap0)).toList++ys,zs,by rw [e,e2,List.append_assoc],?_,k2,k3,⟨A0,cap0,ys,rfl,g1,g2,k4⟩,k5⟩
  rw [List.length_append,Array.length_toList,stC_size g1,k1,List.length_cons]
  omega
end
def SsAt (ok:Nat→Prop) (w:World) (v:Value) (L:List St):Prop:=∃ (A:Option Addr) (cap:Nat) (xs:List Value),v=.slice A L.length cap∧SlZ 22 ok w A cap L.length xs∧StRow (fun b=>ok b∧∀ a,A=some a→b≠a.block) w L xs
section
variable {ok ok2 q:Nat→Prop} {w w':World} {v:Value} {L:List St}
theorem SsAt.chg (h:SsAt ok w v L) (hc:Chg q w w') (hp:∀ b,b < w.heap.size→ok b→¬ q b):SsAt ok w' v L:=by
 obtain ⟨A,cap,xs,e,h1,h2⟩:=h
 exact ⟨A,cap,xs,e,h1.chg hc hp,h2.chg hc fun b hb ho=>hp b hb ho.1⟩
theorem SsAt.grows (h:SsAt ok w v L) (hg:Grows w w'):SsAt ok w' v L:=h.chg (Chg.of_grows (p:=fun _=>False) hg) fun _ _ _ h=>h
theorem SsAt.mono (h:SsAt ok w v L) (ho:∀ b,b < w.heap.size→ok b→ok2 b):SsAt ok2 w v L:=by
 obtain ⟨A,cap,xs,e,h1,h2⟩:=h
 exact ⟨A,cap,xs,e,h1.mono ho,h2.mono fun b hb ho2=>⟨ho b hb ho2.1,ho2.2⟩⟩
theorem SsAt.nil (ok:Nat→Prop) (w:World):SsAt ok w (.slice none 0 0) []:=⟨none,0,[],rfl,SlZ.zero 22 ok w,rfl⟩
structure StNth (ok:Nat→Prop) (w:World) (b o:Nat) (t:St) (A:Option Addr) (cap:Nat):Prop where
 len:t.2.1.length=20
 c0:w.cell? ⟨b,o,none⟩=some (.int .i64 t.1)
 sp:∀ j u,(spC t.2.1)[j]?=some u→w.cell? ⟨b,o+1+j,none⟩=some u
 c21:w.cell? ⟨b,o+21,none⟩=some (.slice A t.2.2.len cap)
 wy:WyAt ok w A cap t.2.2
theorem SsAt.form (h:SsAt ok w v L) (hp:0 < L.length):∃ b o cap,v=.slice (some ⟨b,o,none⟩) L.length cap∧InHeap b w∧ok b∧L.length≤cap∧cap≤9223372036854775807:=by
 obtain ⟨A,cap,xs,e,h1,h2⟩:=h
 obtain ⟨b,o,e2,hb,_⟩:=h1.rd.2 hp
 exact ⟨b,o,cap,by rw [e,e2],hb,h1.ok hp _ e2,h1.le,h1.cap63⟩
theorem SsAt.nth {b o n cap:Nat} {a c:List St} {t:St} (h:SsAt ok w (.slice (some ⟨b,o,none⟩) n cap) L) (e:L=a++t::c):∃ A cp,StNth (fun x=>ok x∧x≠b) w b (o+a.length*22) t A cp:=by
 obtain ⟨A,cap2,xs,e2,h1,h2⟩:=h
 injection e2 with e2 e3 e4
 subst e2
 rw [e] at h2
 obtain ⟨A,cp,ys,zs,k1,k2,k3,k4,k5,k6⟩:=h2.at
 obtain ⟨b',o',q1,q2,q3⟩:=h1.rd.2 (by rw [e];simp;omega)
 cases q1
 have hz:(stC t.1 t.2.1 (.slice A t.2.2.len cp)).toList.length=22:=by rw [Array.length_toList,stC_size k3]
 have hc:∀ j u,(stC t.1 t.2.1 (.slice A t.2.2.len cp))[j]?=some u→w.cell? ⟨b,o+(a.length*22+j),none⟩=some u:=fun j u hu=>by
  have hj:j < 22:=by
   have:=(Array.getElem?_eq_some_iff.1 hu).1
   rwa [stC_size k3] at this
  refine q3 _ _ ?_
  rw [k1,← k2,List.getElem?_append_right (Nat.le_add_right _ _),Nat.add_sub_cancel_left,List.getElem?_append_left (by rw [hz];exact hj),Array.getElem?_toList]
  exact hu
 refine ⟨A,cp,k3,by have:=hc 0 _ stC_0;rwa [Nat.add_zero] at this,fun j u hu=>?_,by have:=hc 21 _ (stC_21 k3);rwa [← Nat.add_assoc] at this,k4.mono fun x _ hx=>⟨hx.1,hx.2 _ rfl⟩⟩
 have hj:j < 20:=by
  have:=(Array.getElem?_eq_some_iff.1 hu).1
  rw [spC_size,k3] at this
  exact this
 have:=hc (1+j) u (by rw [stC_sp k3 hj];exact hu)
 rwa [← Nat.add_assoc,← Nat.add_assoc] at this
end
section
variable {ok ok2 q:Nat→Prop} {w w':World} {b o:Nat} {t:St} {A:Option Addr} {cap:Nat}
theorem StNth.inh (h:StNth ok w b o t A cap):InHeap b w:=World.block_lt_of_cell? _ _ h.c0
theorem StNth.chg (h:StNth ok w b o t A cap) (hc:Chg q w w') (hb:¬ q b) (hp:∀ b,b < w.heap.size→ok b→¬ q b):StNth ok w' b o t A cap :=
 ⟨h.len,cellC h.c0 hc hb,fun j u hu=>cellC (h.sp j u hu) hc hb,cellC h.c21 hc hb,h.wy.chg hc hp⟩
theorem StNth.grows (h:StNth ok w b o t A cap) (hg:Grows w w'):StNth ok w' b o t A cap:=h.chg (Chg.of_grows (p:=fun _=>False) hg) (fun h=>h) fun _ _ _ h=>h
end
theorem elemSt:ElemOf Tryz.prog 83 87 22 192:=elemOf_of Tryz.underlying83 (by kernel_rfl) (by kernel_rfl) (z:=.agg (stC 0 spZero (.slice none 0 0))) (by kernel_rfl) (by kernel_rfl) (by decide) (by decide)
theorem elemWyR:ElemOf Tryz.prog 85 130 2 32:=elemOf_of Tryz.underlying85 (by kernel_rfl) (by kernel_rfl) (z:=.agg #[.int .i64 0,.slice none 0 0]) (by kernel_rfl) rfl (by decide) (by decide)
theorem bldSt_lit (g0 g1 g2 g3 g4 g5 g6 g7 g8 g9 g10 g11 g12 g13 g14 g15 g16 g17 g18 g19:Int) (a:Int) (w:World):(Instr.build 87 #[(0,.int .i64 a),(1,spV [g0,g1,g2,g3,g4,g5,g6,g7,g8,g9,g10,g11,g12,g13,g14,g15,g16,g17,g18,g19])]).run Tryz.prog w=.ok (.agg (stC a [g0,g1,g2,g3,g4,g5,g6,g7,g8,g9,g10,g11,g12,g13,g14,g15,g16,g17,g18,g19] (.slice none 0 0))) w:=by kernel_rfl
theorem bldSt_lit3 (g0 g1 g2 g3 g4 g5 g6 g7 g8 g9 g10 g11 g12 g13 g14 g15 g16 g17 g18 g19:Int) (a:Int) (A:Option Addr) (n c:Nat) (w:World):(Instr.build 87 #[(0,.int .i64 a),(1,spV [g0,g1,g2,g3,g4,g5,g6,g7,g8,g9,g10,g11,g12,g13,g14,g15,g16,g17,g18,g19]),(2,.slice A n c)]).run Tryz.prog w=.ok (.agg (stC a [g0,g1,g2,g3,g4,g5,g6,g7,g8,g9,g10,g11,g12,g13,g14,g15,g16,g17,g18,g19] (.slice A n c))) w:=by kernel_rfl
theorem bldSt_raw (g:Spn) (hg:g.length=20) (a:Int) (w:World):(Instr.build 87 #[(0,.int .i64 a),(1,spV g)]).run Tryz.prog w=.ok (.agg (stC a g (.slice none 0 0))) w:=by
 match g,hg with
 | [g0,g1,g2,g3,g4,g5,g6,g7,g8,g9,g10,g11,g12,g13,g14,g15,g16,g17,g18,g19],_=>exact bldSt_lit g0 g1 g2 g3 g4 g5 g6 g7 g8 g9 g10 g11 g12 g13 g14 g15 g16 g17 g18 g19 a w
theorem bldSt_raw3 (g:Spn) (hg:g.length=20) (a:Int) (A:Option Addr) (n c:Nat) (w:World):(Instr.build 87 #[(0,.int .i64 a),(1,spV g),(2,.slice A n c)]).run Tryz.prog w=.ok (.agg (stC a g (.slice A n c))) w:=by
 match g,hg with
 | [g0,g1,g2,g3,g4,g5,g6,g7,g8,g9,g10,g11,g12,g13,g14,g15,g16,g17,g18,g19],_=>exact bldSt_lit3 g0 g1 g2 g3 g4 g5 g6 g7 g8 g9 g10 g11 g12 g13 g14 g15 g16 g17 g18 g19 a A n c w
theorem bldSlSt_lit (g0 g1 g2 g3 g4 g5 g6 g7 g8 g9 g10 g11 g12 g13 g14 g15 g16 g17 g18 g19:Int) (a:Int) (A:Option Addr) (n c:Nat) (w:World):(Instr.buildSlice 83 1 #[(0,.agg (stC a [g0,g1,g2,g3,g4,g5,g6,g7,g8,g9,g10,g11,g12,g13,g14,g15,g16,g17,g18,g19] (.slice A n c)))]).run Tryz.prog w=.ok (.slice (some ⟨w.heap.size,0,none⟩) 1 1) (w.alloc (.cells (stC a [g0,g1,g2,g3,g4,g5,g6,g7,g8,g9,g10,g11,g12,g13,g14,g15,g16,g17,g18,g19] (.slice A n c)) 87)):=by kernel_rfl
theorem bldSlSt_raw (g:Spn) (hg:g.length=20) (a:Int) (A:Option Addr) (n c:Nat) (w:World):(Instr.buildSlice 83 1 #[(0,.agg (stC a g (.slice A n c)))]).run Tryz.prog w=.ok (.slice (some ⟨w.heap.size,0,none⟩) 1 1) (w.alloc (.cells (stC a g (.slice A n c)) 87)):=by
 match g,hg with
 | [g0,g1,g2,g3,g4,g5,g6,g7,g8,g9,g10,g11,g12,g13,g14,g15,g16,g17,g18,g19],_=>exact bldSlSt_lit g0 g1 g2 g3 g4 g5 g6 g7 g8 g9 g10 g11 g12 g13 g14 g15 g16 g17 g18 g19 a A n c w
end Go.Proofs.YtnjagecmhdagkaaGreatDoor
