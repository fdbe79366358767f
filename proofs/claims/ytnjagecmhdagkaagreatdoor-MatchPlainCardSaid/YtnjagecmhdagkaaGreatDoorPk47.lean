/-
 Several texts of the proof: MatPe, MatPh.
-/
import Derived.Test.YtnjagecmhdagkaaGreatDoorPk42
set_option linter.unusedSimpArgs false
set_option linter.unusedVariables false
set_option maxRecDepth 3000
/-
  Matches, the document's table: nodes get numbers: how things stand in memory meanwhile.
-/
namespace Go.Proofs.YtnjagecmhdagkaaGreatDoor
open Go.RowKit
structure AdAt (s:List UInt8) (tb:Nat) (ow:Nat→Nat) (w:World) (n m:Nat) (vL vE:Value) (xs:List Value):Prop where
 old:∀ b,ow b≠0→b < w.heap.size
 one:ow tb=4
 tab:blk w tb=#[.string (tx s),vL,vE]
 rl:w.ownsRow 0 124 263 vL n xs
 ol:∀ b,vL.ownBlock=some b→ow b=2
 re:w.ownsRow 0 153 1 vE m (List.replicate m (.slice none 0 0))
 oe:∀ b,vE.ownBlock=some b→ow b=3
section
variable {s:List UInt8} {tb:Nat} {ow:Nat→Nat} {w w':World} {n m:Nat} {vL vE vL2 vE2:Value} {xs ys:List Value} {p:Nat→Prop}
theorem AdAt.chg (h:AdAt s tb ow w n m vL vE xs) (hc:Chg p w w') (hp:∀ b,p b→ow b=0):AdAt s tb ow w' n m vL vE xs :=
 ⟨fun b hb=>Nat.lt_of_lt_of_le (h.old b hb) hc.size,h.one,(chg_blk hc (Blk.inHeap h.tab (by simp)) fun e=>by have:=hp _ e;have:=h.one;omega).trans h.tab,own_chgX h.rl hc fun b hb e=>by have:=hp b e;have:=h.ol b hb;omega,h.ol,own_chgX h.re hc fun b hb e=>by have:=hp b e;have:=h.oe b hb;omega,h.oe⟩
theorem AdAt.grows (h:AdAt s tb ow w n m vL vE xs) (hg:Grows w w'):AdAt s tb ow w' n m vL vE xs:=h.chg (Chg.of_grows (p:=fun _=>False) hg) fun _ h=>h.elim
theorem AdAt.lt (h:AdAt s tb ow w n m vL vE xs):tb < w.heap.size:=Blk.inHeap h.tab (by simp)
theorem AdAt.free (h:AdAt s tb ow w n m vL vE xs) (k:Nat):w.frozen? ⟨tb,k,none⟩=false:=Blk.free h.tab (by simp) k
theorem AdAt.cells (h:AdAt s tb ow w n m vL vE xs):w.cell? ⟨tb,0,none⟩=some (.string (tx s))∧w.cell? ⟨tb,1,none⟩=some vL∧w.cell? ⟨tb,2,none⟩=some vE:=⟨Blk.cell h.tab (by simp) 0,Blk.cell h.tab (by simp) 1,Blk.cell h.tab (by simp) 2⟩
theorem AdAt.pushL (h:AdAt s tb ow w n m vL vE xs) {e9:Nat} (hown:w'.ownsRow 0 124 263 vL2 (n+1) ys) (hc:Chg (fun b=>vL.ownBlock=some b) w w') (hv2:vL2.ownBlock=some e9) (he:vL.ownBlock=some e9∨w.heap.size≤e9) :
  AdAt s tb (fun b=>if b=e9 then 2 else ow b) (w'.setCell ⟨tb,1,none⟩ vL2) (n+1) m vL2 vE ys∧ClNext ow (fun b=>if b=e9 then 2 else ow b) w (w'.setCell ⟨tb,1,none⟩ vL2):=by
 have hlt9:e9 < w'.heap.size:=(own_ltX hown hv2).1
 have h4:=h.one
 have hsame:∀ b,b < w.heap.size→(if b=e9 then 2 else ow b)=ow b:=fun b hb=>by
  split
  ·rename_i e
   subst e
   rcases he with he | he
   ·exact (h.ol _ he).symm
   ·omega
  ·rfl
 have hC2:Chg (fun b=>b=tb) w' (w'.setCell ⟨tb,1,none⟩ vL2):=chg_cell _ _ _ _
 have hnt:∀ b,vL.ownBlock=some b→b≠tb:=fun b hb e=>by have:=h.ol b hb;rw [e] at this;omega
 have htb:=h.lt
 have hChg:Chg (fun b=>b=tb∨vL.ownBlock=some b) w (w'.setCell ⟨tb,1,none⟩ vL2):=(hc.mono fun b _ h=>.inr h).trans (hC2.mono fun b _ h=>.inl h)
 have hb2:blk w' tb=#[.string (tx s),vL,vE]:=(chg_blk hc htb fun e=>hnt tb e rfl).trans h.tab
 have h9t:e9≠tb:=fun e=>by
  have:=hsame e9 (by omega)
  rw [if_pos rfl,e,h4] at this
  omega
 refine ⟨⟨fun b hb=>?_,by rw [hsame tb htb];exact h4,(pa_put hb2 (by simp) 1 vL2).trans rfl,own_chgX hown hC2 fun b hb e=>?_,fun b hb=>?_,own_chgX h.re hChg fun b hb e=>?_,fun b hb=>?_⟩,hChg.mono fun b _ e=>?_,hsame⟩
 ·rw [show (w'.setCell ⟨tb,1,none⟩ vL2).heap.size=w'.heap.size by simp]
  split at hb
  ·rename_i e;rw [e];exact hlt9
  ·exact Nat.lt_of_lt_of_le (h.old b hb) hc.size
 ·rw [hv2] at hb
  injection hb with hb
  exact h9t (hb.trans e)
 ·rw [hv2] at hb
  injection hb with hb
  rw [if_pos hb.symm]
 ·rcases e with e | e
  ·have:=h.oe b hb;rw [e] at this;omega
  ·have h1:=h.oe b hb;have h2:=h.ol b e;omega
 ·rw [hsame b (own_ltX h.re hb).1]
  exact h.oe b hb
 ·rcases e with e | e
  ·rw [e,h4];omega
  ·rw [h.ol b e];exact Nat.le_refl _
theorem AdAt.pushE (h:AdAt s tb ow w n m vL vE xs) {e9:Nat} (hown:w'.ownsRow 0 153 1 vE2 (m+1) (List.replicate m (.slice none 0 0)++[.slice none 0 0])) (hc:Chg (fun b=>vE.ownBlock=some b) w w') (hv2:vE2.ownBlock=some e9) (he:vE.ownBlock=some e9∨w.heap.size≤e9) :
  AdAt s tb (fun b=>if b=e9 then 3 else ow b) (w'.setCell ⟨tb,2,none⟩ vE2) n (m+1) vL vE2 xs∧ClNext ow (fun b=>if b=e9 then 3 else ow b) w (w'.setCell ⟨tb,2,none⟩ vE2):=by
 have hlt9:e9 < w'.heap.size:=(own_ltX hown hv2).1
 have h4:=h.one
 have hsame:∀ b,b < w.heap.size→(if b=e9 then 3 else ow b)=ow b:=fun b hb=>by
  split
  ·rename_i e
   subst e
   rcases he with he | he
   ·exact (h.oe _ he).symm
   ·omega
  ·rfl
 have hC2:Chg (fun b=>b=tb) w' (w'.setCell ⟨tb,2,none⟩ vE2):=chg_cell _ _ _ _
 have hnt:∀ b,vE.ownBlock=some b→b≠tb:=fun b hb e=>by have:=h.oe b hb;rw [e] at this;omega
 have htb:=h.lt
 have hChg:Chg (fun b=>b=tb∨vE.ownBlock=some b) w (w'.setCell ⟨tb,2,none⟩ vE2):=(hc.mono fun b _ h=>.inr h).trans (hC2.mono fun b _ h=>.inl h)
 have hb2:blk w' tb=#[.string (tx s),vL,vE]:=(chg_blk hc htb fun e=>hnt tb e rfl).trans h.tab
 have h9t:e9≠tb:=fun e=>by
  have:=hsame e9 (by omega)
  rw [if_pos rfl,e,h4] at this
  omega
 rw [show List.replicate m (Value.slice none 0 0)++[.slice none 0 0]=List.replicate (m+1) (.slice none 0 0) from (List.replicate_succ' ..).symm] at hown
 refine ⟨⟨fun b hb=>?_,by rw [hsame tb htb];exact h4,(pa_put hb2 (by simp) 2 vE2).trans rfl,own_chgX h.rl hChg fun b hb e=>?_,fun b hb=>?_,own_chgX hown hC2 fun b hb e=>?_,fun b hb=>?_⟩,hChg.mono fun b _ e=>?_,hsame⟩
 ·rw [show (w'.setCell ⟨tb,2,none⟩ vE2).heap.size=w'.heap.size by simp]
  split at hb
  ·rename_i e;rw [e];exact hlt9
  ·exact Nat.lt_of_lt_of_le (h.old b hb) hc.size
 ·rcases e with e | e
  ·have:=h.ol b hb;rw [e] at this;omega
  ·have h1:=h.ol b hb;have h2:=h.oe b e;omega
 ·rw [hsame b (own_ltX h.rl hb).1]
  exact h.ol b hb
 ·rw [hv2] at hb
  injection hb with hb
  exact h9t (hb.trans e)
 ·rw [hv2] at hb
  injection hb with hb
  rw [if_pos hb.symm]
 ·rcases e with e | e
  ·rw [e,h4];omega
  ·rw [h.oe b e];omega
theorem AdAt.setL {lb cap:Nat} (h:AdAt s tb ow w n m (.slice (some ⟨lb,0,none⟩) n cap) vE xs) (j:Nat) (u:Value):AdAt s tb ow (w.setCell ⟨lb,j,none⟩ u) n m (.slice (some ⟨lb,0,none⟩) n cap) vE (xs.set j u)∧ClNext ow ow w (w.setCell ⟨lb,j,none⟩ u):=by
 have hC:Chg (fun b=>b=lb) w (w.setCell ⟨lb,j,none⟩ u):=chg_cell _ _ _ _
 have hlb:=h.ol lb rfl
 have h4:=h.one
 refine ⟨⟨fun b hb=>Nat.lt_of_lt_of_le (h.old b hb) hC.size,h4,(chg_blk hC h.lt fun e=>by rw [e] at h4;omega).trans h.tab,own_setX h.rl j u,h.ol,own_chgX h.re hC fun b hb e=>by have:=h.oe b hb;rw [e] at this;omega,h.oe⟩,hC.mono fun b _ e=>by rw [e,hlb];exact Nat.le_refl _,fun _ _=>rfl⟩
end
def markC (ow:Nat→Nat) (v:Value):Nat→Nat:=fun b=>if v.ownBlock=some b then 1 else ow b
theorem AdAt.mark {s:List UInt8} {tb n m:Nat} {ow:Nat→Nat} {w:World} {vL vE v:Value} {xs:List Value} (h:AdAt s tb ow w n m vL vE xs) (hv:∀ b,v.ownBlock=some b→ow b=0∧b < w.heap.size):AdAt s tb (markC ow v) w n m vL vE xs:=by
 have hs:∀ b,ow b≠0→markC ow v b=ow b:=fun b hb=>by
  unfold markC
  rw [if_neg]
  intro e
  exact hb (hv b e).1
 refine ⟨fun b hb=>?_,by rw [hs _ (by rw [h.one];decide)];exact h.one,h.tab,h.rl,fun b hb=>by rw [hs _ (by rw [h.ol b hb];decide)];exact h.ol b hb,h.re,fun b hb=>by rw [hs _ (by rw [h.oe b hb];decide)];exact h.oe b hb⟩
 unfold markC at hb
 split at hb
 ·rename_i e;exact (hv b e).2
 ·exact h.old b hb
theorem elemFl:ElemOf Tryz.prog 72 124 263 344:=elemOf_of Tryz.underlying72 (by kernel_rfl) (by kernel_rfl) (z:=.agg (dfA (ndA 0 0 noSet 0 0 0 (.slice none 0 0)) (.slice none 0 0))) (by kernel_rfl) (by rw [show (Value.agg (dfA (ndA 0 0 noSet 0 0 0 (.slice none 0 0)) (.slice none 0 0))).cells=dfA (ndA 0 0 noSet 0 0 0 (.slice none 0 0)) (.slice none 0 0) from rfl];exact dfA_size (ndA_size _ _ _ _ _ _ _)) (by decide) (by decide)
theorem elemEn:ElemOf Tryz.prog 73 153 1 24:=elemOf_of Tryz.underlying73 (by kernel_rfl) (by kernel_rfl) (z:=.slice none 0 0) (by kernel_rfl) (by kernel_rfl) (by decide) (by decide)
theorem elemId:ElemOf Tryz.prog 51 3 1 8:=elemOf_of Tryz.underlying51 (by kernel_rfl) (by kernel_rfl) (z:=.int .i64 0) (by kernel_rfl) (by kernel_rfl) (by decide) (by decide)
theorem dfA_one {C:Array Value} {k:Value} (hC:OneCells C) (hk:k.oneCell'=true):OneCells (dfA C k):=by
 unfold OneCells at hC ⊢
 rw [Array.all_eq_true_iff_forall_mem] at hC ⊢
 intro x hx
 simp only [dfA,Array.mem_append,List.mem_toArray,List.mem_singleton] at hx
 rcases hx with hx | rfl
 ·exact hC x hx
 ·exact hk
theorem dfA_set {C:Array Value} {k:Value} (h:C.size=262) (k2:Value):(dfA C k).toList.set 262 k2=(dfA C k2).toList:=by
 simp only [dfA,Array.toList_append]
 rw [List.set_append_right _ _ (by simp [h])]
 simp [h]
def bldFl (x:Array (Nat × Value)):Sem Value:=Instr.build 124 x
theorem bldFl_eq (x:Array (Nat × Value)):Instr.build 124 x=bldFl x:=rfl
theorem bldFl_run (kind byte:Int) (p:Nat→Bool) (n mn mx:Int) (k:Value) (w:World):(bldFl #[(0,.agg (ndA kind byte p n mn mx k))]).run Tryz.prog w=.ok (.agg (dfA (ndA kind byte p n mn mx k) (.slice none 0 0))) w:=by kernel_rfl
def bldSlFl (x:Array (Nat × Value)):Sem Value:=Instr.buildSlice 72 1 x
theorem bldSlFl_eq (x:Array (Nat × Value)):Instr.buildSlice 72 1 x=bldSlFl x:=rfl
theorem bldSlFl_run (w:World) (k b:Int) (p:Nat→Bool) (n mn mx:Int) (a:Option Addr) (l d:Nat) (a2:Option Addr) (l2 d2:Nat):(bldSlFl #[(0,.agg (dfA (ndA k b p n mn mx (.slice a l d)) (.slice a2 l2 d2)))]).run Tryz.prog w=.ok (.slice (some ⟨w.heap.size,0,none⟩) 1 1) (w.alloc (.cells (dfA (ndA k b p n mn mx (.slice a l d)) (.slice a2 l2 d2)) 124)):=by kernel_rfl
end Go.Proofs.YtnjagecmhdagkaaGreatDoor
namespace Go.Proofs.YtnjagecmhdagkaaGreatDoor
open Go.RowKit
def AddC (s:List UInt8) (tb:Nat) (l:Fr):Prop:=∀ (ow:Nat→Nat) (w:World) (n:Nat) (vL vE:Value) (xs:List Value) (A:Option Addr) (cap:Nat),AdAt s tb ow w n n vL vE xs→FrAt (fun b=>ow b=1) w A cap l→n+l.size≤1000 →
 Calls Tryz.prog 27 #[.pointer (some ⟨tb,0,none⟩),.slice A l.len cap] w fun e w'=>∃ (ow2:Nat→Nat) (vL2 vE2:Value) (ys:List Value) (I:Option Addr) (ic:Nat),e=.returned (.slice I l.len ic)∧AdAt s tb ow2 w' (n+l.size) (n+l.size) vL2 vE2 (xs++ys)∧FlRow (fun b=>ow2 b=1) w' l n ys∧SlZ 1 (fun b=>ow2 b=1) w' I ic l.len (idsV l n)∧ClNext ow ow2 w w'
structure AdRs (ow0:Nat→Nat) (w0:World) (n:Nat) (A:Option Addr) (cap:Nat) (l a:Fr) (v:Value) (ow:Nat→Nat) (ys:List Value) (w:World):Prop where
 row:FlRow (fun b=>ow b=1) w a n ys
 ids:w.ownsRow 0 3 1 v a.len (idsV a n)
 own:∀ b,v.ownBlock=some b→ow b=0∧w0.heap.size≤b
 kids:FrAt (fun b=>ow b=1) w A cap l
 next:ClNext ow0 ow w0 w
section
variable {s:List UInt8} {tb n cap:Nat} {ow0 ow ow2:Nat→Nat} {w0 w w2:World} {xs ys:List Value} {A:Option Addr} {l a:Fr} {v v2 vL vE:Value}
theorem AdRs.step (h:AdRs ow0 w0 n A cap l a v ow ys w) (k:ClNext ow ow2 w w2):AdRs ow0 w0 n A cap l a v ow2 ys w2 :=
 ⟨h.row.next k,own_chgX h.ids k.chg fun b hb e=>by have:=(h.own b hb).1;omega,fun b hb=>⟨(k.same b (own_ltX h.ids hb).1).trans (h.own b hb).1,(h.own b hb).2⟩,h.kids.next k,h.next.trans k⟩
theorem AdRs.push {x:NdV} {k:Fr} {e9:Nat} (h:AdRs ow0 w0 n A cap l a v ow ys w) (hold:∀ b,ow b≠0→b < w.heap.size) (hown:w2.ownsRow 0 3 1 v2 (a.len+1) (idsV a n++[.int .i64 ((n+a.size:Nat):Int)])) (hc:Chg (fun b=>v.ownBlock=some b) w w2) (hv:v2.ownBlock=some e9) (he:v.ownBlock=some e9∨w.heap.size≤e9) :
  FlRow (fun b=>ow b=1) w2 a n ys∧w2.ownsRow 0 3 1 v2 (a.app (Fr.one x k)).len (idsV (a.app (Fr.one x k)) n)∧(∀ b,v2.ownBlock=some b→ow b=0∧w0.heap.size≤b)∧FrAt (fun b=>ow b=1) w2 A cap l∧ClNext ow0 ow w0 w2:=by
 have hq:∀ b,b < w.heap.size→ow b=1→¬ v.ownBlock=some b:=fun b _ h1 e=>by have:=(h.own b e).1;omega
 refine ⟨h.row.chg hc hq,?_,fun b hb=>?_,h.kids.chg hc hq,h.next.own hc fun b e=>(h.own b e).2⟩
 ·rw [Fr.len_app,idsV_app]
  exact hown
 ·rw [hv] at hb
  injection hb with hb
  subst hb
  rcases he with he | he
  ·exact h.own _ he
  ·refine ⟨?_,Nat.le_trans h.next.chg.size he⟩
   rcases Nat.eq_zero_or_pos (ow e9) with h1 | h1
   ·exact h1
   ·have:=hold e9 (by omega)
    omega
theorem AdRs.ret (h:AdRs ow0 w0 n A cap l a v ow ys w) (ht:AdAt s tb ow w (n+a.size) (n+a.size) vL vE (xs++ys)):∃ (ow2:Nat→Nat) (I:Option Addr) (ic:Nat),v=.slice I a.len ic∧AdAt s tb ow2 w (n+a.size) (n+a.size) vL vE (xs++ys)∧FlRow (fun b=>ow2 b=1) w a n ys∧SlZ 1 (fun b=>ow2 b=1) w I ic a.len (idsV a n)∧ClNext ow0 ow2 w0 w:=by
 obtain ⟨I,ic,hv,h1,h2,h3,h4,h5⟩:=own_rdX h.ids
 have hm:∀ b,ow b=1→markC ow v b=1:=fun b hb=>by
  unfold markC
  split
  ·rfl
  ·exact hb
 refine ⟨markC ow v,I,ic,hv,ht.mark fun b hb=>⟨(h.own b hb).1,(own_ltX h.ids hb).1⟩,h.row.mono fun b _ hb=>hm b hb,⟨h3,h4,h1,h2,fun _ a2 e=>?_⟩,h.next.chg,fun b hb=>?_⟩
 ·obtain ⟨g,o,t⟩:=a2
  have:=(h5 g o t e).2.2.2.2
  unfold markC
  rw [if_pos this]
 ·unfold markC
  rw [if_neg,h.next.same b hb]
  intro e
  have:=(h.own b e).2
  omega
end
theorem frAt_okB {ok:Nat→Prop} {w:World} {b o cap:Nat} {f:Fr} (h:FrAt ok w (some ⟨b,o,none⟩) cap f) (hp:0 < f.len):ok b:=by
 obtain ⟨xs,h1,_⟩:=h
 exact h1.ok hp _ rfl
theorem AdRs.done {s:List UInt8} {tb n m cap lb lc ic:Nat} {ow0 ow:Nat→Nat} {w0 w:World} {xs ys ys5:List Value} {A K I:Option Addr} {kc:Nat} {l a kids:Fr} {x:NdV} {v vE:Value} (hm:n+a.size=m) (hxs:(xs++ys).length=m*263)
  (ht:AdAt s tb ow w (m+1+kids.size) (m+1+kids.size) (.slice (some ⟨lb,0,none⟩) (m+1+kids.size) lc) vE (xs++ys++(dfC x (.slice K kids.len kc) (.slice none 0 0)).toList++ys5))
  (h1:FlRow (fun b=>ow b=1) w a n ys) (h2:w.ownsRow 0 3 1 v (a.app (Fr.one x kids)).len (idsV (a.app (Fr.one x kids)) n)) (h3:∀ b,v.ownBlock=some b→ow b=0∧w0.heap.size≤b) (h4:FrAt (fun b=>ow b=1) w A cap l) (h5:ClNext ow0 ow w0 w)
  (hk1:FlRow (fun b=>ow b=1) w kids (m+1) ys5) (hk2:SlZ 1 (fun b=>ow b=1) w I ic kids.len (idsV kids (m+1))) (hk3:FrAt (fun b=>ow b=1) w K kc kids) :
  ∃ ys2,AdAt s tb ow (w.setCell ⟨lb,m*263+262,none⟩ (.slice I kids.len ic)) (n+(a.app (Fr.one x kids)).size) (n+(a.app (Fr.one x kids)).size) (.slice (some ⟨lb,0,none⟩) (m+1+kids.size) lc) vE (xs++ys2)∧AdRs ow0 w0 n A cap l (a.app (Fr.one x kids)) v ow ys2 (w.setCell ⟨lb,m*263+262,none⟩ (.slice I kids.len ic)):=by
 have hsz:n+(a.app (Fr.one x kids)).size=m+1+kids.size:=by rw [Fr.size_app];simp only [Fr.one,Fr.size];omega
 obtain ⟨p1,p2⟩:=ht.setL (m*263+262) (.slice I kids.len ic)
 have hf:(dfC x (.slice K kids.len kc) (.slice none 0 0)).toList.length=263:=by rw [Array.length_toList,dfC_size]
 have hlist:(xs++ys++(dfC x (.slice K kids.len kc) (.slice none 0 0)).toList++ys5).set (m*263+262) (.slice I kids.len ic)=xs++(ys++((dfC x (.slice K kids.len kc) (.slice I kids.len ic)).toList++(ys5++[]))):=by
  rw [List.append_assoc (xs++ys),List.set_append_right _ _ (by omega),hxs,List.set_append_left _ _ (by omega),Nat.add_sub_cancel_left,dfA_set (ndA_size _ _ _ _ _ _ _),List.append_nil,List.append_assoc]
 rw [hlist] at p1
 refine ⟨_,by rw [hsz];exact p1,⟨FlRow.app (h1.next p2) ⟨K,kc,I,ic,ys5,[],rfl,?_,hk3.next p2,?_,rfl⟩,own_chgX h2 p2.chg fun b hb e=>by have:=(h3 b hb).1;omega,h3,h4.next p2,h5.trans p2⟩⟩
 ·rw [hm];exact hk2.next p2
 ·rw [hm];exact hk1.next p2
attribute [local go_sem ↓] ldNodeR_eq bldFl_eq bldSlFl_eq
attribute [local go_sem] loadNodeR bldFl_run bldSlFl_run gro0 gro1 gro2 gro3 gro4 gro5
set_option maxRecDepth 100000 in
set_option maxHeartbeats 8000000 in
theorem dadd_any (s:List UInt8) (tb:Nat):∀ (N:Nat) (l:Fr),l.size≤N→AddC s tb l:=by
 intro N
 induction N with
 | zero =>
  intro l hN ow w n vL vE xs A cap hT hA hsz
  obtain rfl:l=.nil:=Fr.nil_of_len (by have:=l.len_size;omega)
  have HT:=Lib.hid hT
  clear hT hA hN
  go_enter Tryz.func27,Tryz.ntmps27
  go_wp2_with fail
  go_loopg [5,6,7,8] 0 (fun q v5 v6 _ _ wr=>v5=.slice none 0 0∧v6=.int .i64 0∧wr=w)
  case atStart=>exact ⟨rfl,rfl,rfl⟩
  case round =>
   obtain ⟨rfl,rfl,rfl⟩:=hrel
   go_wp2_with fail
   go_ret
   exact ⟨ow,vL,vE,[],none,0,rfl,by rw [List.append_nil];exact HT.out,rfl,SlZ.zero _ _ _,ClNext.refl _ _⟩
 | succ N ih =>
  intro l hN ow w n vL vE xs A cap hT hA hsz
  have hll:=l.len_size
  have HT:=Lib.hid hT
  have HA:=Lib.hid hA
  have HIH:=Lib.hid ih
  have HSZ:=Lib.hid (And.intro hN hsz)
  have hl9:l.len≤1000:=by omega
  clear hT hA hN hsz ih hll
  go_enter Tryz.func27,Tryz.ntmps27
  go_wp2_with fail
  go_loopg [5,6,7,8] l.len (fun q v5 v6 _ _ wr=>∃ (i:Nat) (a c:Fr) (ow2:Nat→Nat) (vL2 vE2:Value) (ys:List Value),q+i=l.len∧v6=.int .i64 i∧l=a.app c∧a.len=i∧AdAt s tb ow2 wr (n+a.size) (n+a.size) vL2 vE2 (xs++ys)∧AdRs ow w n A cap l a v5 ow2 ys wr)
  case atStart=>exact ⟨0,.nil,l,ow,vL,vE,[],by omega,rfl,rfl,rfl,by rw [List.append_nil];exact HT.out,⟨rfl,World.ownsRow_nil _ _ _ _,(fun b hb=>by cases hb),HA.out,ClNext.refl _ _⟩⟩
  case round =>
   obtain ⟨i,a,c,ow2,vL2,vE2,ys,hq,rfl,hf,hai,hT2,hL⟩:=hrel
   cases c with
   | nil =>
    have hi:i=l.len:=by rw [hf,Fr.app_nil];exact hai.symm
    have hfa:l=a:=by rw [hf,Fr.app_nil]
    subst hi hfa
    obtain ⟨ow3,I,ic,rfl,r1,r2,r3,r4⟩:=hL.ret hT2
    have HR:=Lib.hid (And.intro r1 (And.intro r2 (And.intro r3 r4)))
    have hin:decide (l.len < l.len)=false:=decide_eq_false (Nat.lt_irrefl _)
    clear hL hT2 hf hq r1 r2 r3 r4
    go_wp2_with fail
    go_ret
    exact ⟨ow3,vL2,vE2,ys,I,ic,rfl,HR.out.1,HR.out.2.1,HR.out.2.2.1,HR.out.2.2.2⟩
   | cons x kids rest =>
    have hil:i < l.len:=by rw [hf,Fr.len_app,hai];simp [Fr.len]
    have i1:(i:Int) < (l.len:Int):=by omega
    have hsz:kids.size+1+a.size≤l.size:=by rw [hf,Fr.size_app];simp [Fr.size];omega
    obtain ⟨b1,o1,hAs,ib1⟩:=hL.kids.some (by omega)
    subst hAs
    obtain ⟨K,kc,hK,hcells⟩:=hL.kids.node hf rfl
    have hldG:∀ w',Grows wr w'→loadPart Tryz.prog w' 91 b1 (o1+i*262) 262=.ok (.agg (ndC x (.slice K kids.len kc))) w':=fun w' hg=>node_loadR (ndA_size _ _ _ _ _ _ _) fun j u hu=>by
     rw [Nat.add_assoc,← hai]
     exact cellG (hcells j u hu) hg
    obtain ⟨m,hm⟩:∃ z,n+a.size=z:=⟨_,rfl⟩
    rw [hm] at hT2
    have hm9:m≤1000:=by have:=HSZ.out.2;omega
    obtain ⟨LA,lc,rfl,hlc,hl63,-,-,-⟩:=own_rdX hT2.rl
    obtain ⟨t0,t1,t2⟩:=hT2.cells
    have ft:=hT2.free
    have it:InHeap tb wr:=hT2.lt
    have HTT:=Lib.hid hT2
    have HL:=Lib.hid hL
    have HQ:=Lib.hid hq
    have HF:=Lib.hid (And.intro hf hai)
    have HM:=Lib.hid hm
    have HK:=Lib.hid (And.intro hsz hK)
    have hob1:ow2 b1=1:=frAt_okB (ok:=fun b=>ow2 b=1) hL.kids (by omega)
    have HCELL:Hid (∀ w' ow',ClNext ow2 ow' wr w'→w'.cell? ⟨b1,o1+i*262+261,none⟩=some (.slice K kids.len kc)∧ow' b1=1):=Lib.hid fun w' ow' h=>⟨by
     have:=hcells 261 _ (ndA_261 _ _ _ _ _ _ _)
     rw [hai,← Nat.add_assoc] at this
     exact cellC this h.chg (by omega),(h.same b1 ib1).trans hob1⟩
    have HXS:Hid ((xs++ys).length=m*263):=Lib.hid hT2.rl.1
    have HTN:Hid (¬ (Value.slice LA m lc).ownBlock=some tb):=Lib.hid fun e=>by have h1:=hT2.ol tb e;have h2:=hT2.one;omega
    have HRL:=Lib.hid hT2.rl
    obtain ⟨wx,hwx⟩:∃ z,z=wr:=⟨_,rfl⟩
    subst hwx
    clear hT2 hL hq hf hai hm hsz hK hcells hob1
    go_upto_region 6 with fail
    go_cut [] (fun wc=>∃ (ow3:Nat→Nat) (lb lc3:Nat),AdAt s tb ow3 wc (m+1) m (.slice (some ⟨lb,0,none⟩) (m+1) lc3) vE2 (xs++ys++(dfC x (.slice K kids.len kc) (.slice none 0 0)).toList)∧ClNext ow2 ow3 wx wc)
    case first =>
     go_region_law (first
      | (refine step_append_blk elemFl (.tmp 24) (.tmp 30) 0 (.slice LA m lc) m (xs++ys) wx.heap.size (dfC x (.slice K kids.len kc) (.slice none 0 0)) (by rfl) (by rfl) (by simp [Act.eval,Act.put]) (own_moreX HRL.out (by repeat' first | exact Grows.refl _ | refine Grows.alloc ?_ _ | refine Grows.drewN ?_ _ | refine Grows.drew ?_)) (by simp [Act.eval,Act.put]) (by simp [go_sem]) (dfC_size _ _ _) (dfA_one (ndA_one_slice _ _ _ _ _ _ _ _ _) rfl) (by omega) (Nat.zero_le _) ?_;intro e9 cap9 w9 hown9 hC9 hE9;have hc9:Chg (fun b=>(Value.slice LA m lc).ownBlock=some b) wx w9:=(Chg.of_grows (by repeat' first | exact Grows.refl _ | refine Grows.alloc ?_ _ | refine Grows.drewN ?_ _ | refine Grows.drew ?_)).trans hC9;have c9:=cellC t1 hc9 HTN.out;have f9:w9.frozen? ⟨tb,1,none⟩=false:=(hc9.frozen (a:=⟨tb,1,none⟩) it HTN.out).trans (ft 1);have i9:InHeap tb w9:=World.block_lt_of_cell? _ _ c9;have HN9:=Lib.hid (HTT.out.pushL hown9 hc9 rfl (hE9.imp_right (Nat.le_trans (by simp))));clear hown9 hC9 hE9 hc9))
     all_goals (
      go_wp2_with fail
      go_meet
      exact ⟨fun b=>if b=e9 then 2 else ow2 b,e9,cap9,HN9.out.1.grows (by repeat' first | exact Grows.refl _ | refine Grows.drewN ?_ _ | refine Grows.drew ?_),HN9.out.2.trans (ClNext.of_grows _ (by repeat' first | exact Grows.refl _ | refine Grows.drewN ?_ _ | refine Grows.drew ?_))⟩)
    case rest =>
     obtain ⟨ow3,lb,lc3,hT3,hN3⟩:=hcut
     have HL3:=Lib.hid (HL.out.step hN3)
     have HK3:Hid (FrAt (fun b=>ow3 b=1) wc K kc kids):=Lib.hid (HK.out.2.next hN3)
     obtain ⟨t0,t1,t2⟩:=hT3.cells
     have ft:=hT3.free
     have it:InHeap tb wc:=hT3.lt
     have HTT3:=Lib.hid hT3
     have HTN3:Hid (¬ vE2.ownBlock=some tb):=Lib.hid fun e=>by have h1:=hT3.oe tb e;have h2:=hT3.one;omega
     have hre:=hT3.re
     have HN3:=Lib.hid hN3
     have HS3:=Lib.hid HK.out.1
     clear hT3 hN3 HTT HL HK HRL HTN hldG
     go_upto_region 8 with (at_builtin;go_must (refine wpList_append_blk elemEn (.tmp 38) (.tmp 39) 0 vE2 m _ wc.heap.size #[.slice none 0 0] rfl rfl (by simp [Act.eval,Act.put]) (own_moreX hre ((Grows.refl _).alloc _)) (by simp [Act.eval,Act.put]) (blk_alloc_at _ _ _ _ rfl) rfl (by simp [OneCells,Value.oneCell']) (by omega) (Nat.zero_le _) ?_;intro e9 cap9 w9 hown9 hC9 hE9;have hc9:Chg (fun b=>vE2.ownBlock=some b) wc w9:=(Chg.of_grows ((Grows.refl _).alloc _)).trans hC9;have c9:=cellC t2 hc9 HTN3.out;have f9:w9.frozen? ⟨tb,2,none⟩=false:=(hc9.frozen (a:=⟨tb,2,none⟩) it HTN3.out).trans (ft 2);have i9:InHeap tb w9:=World.block_lt_of_cell? _ _ c9;have HN9:=Lib.hid (HTT3.out.pushE hown9 hc9 rfl (hE9.imp_right (Nat.le_trans (by simp))));clear hown9 hC9 hE9 hc9))
     obtain ⟨p1,p2⟩:=HN9.out
     obtain ⟨ow4,how4⟩:∃ z,(fun b=>if b=e9 then 3 else ow3 b)=z:=⟨_,rfl⟩
     rw [how4] at p1 p2
     clear HN9 how4
     generalize w9.setCell ⟨tb,2,none⟩ (.slice (some ⟨e9,0,none⟩) (m+1) cap9)=w10 at *
     have HT4:=Lib.hid p1
     have HL4:=Lib.hid (HL3.out.step p2)
     have HK4:=Lib.hid (HK3.out.next p2)
     obtain ⟨d0,d1⟩:=HCELL.out _ _ (HN3.out.trans p2)
     have HD1:=Lib.hid d1
     have hids:=HL4.out.ids
     have ha9:a.len≤1000:=by have:=a.len_size;have:=HM.out;omega
     have HB:Hid (¬ u5.ownBlock=some b1):=Lib.hid fun e=>by have:=(HL4.out.own b1 e).1;omega
     clear p1 p2 hre c9 f9 i9 t0 t1 t2 ft it HL3 HK3 HTT3 HTN3 HCELL HN3 d1
     go_upto_region 9 with (at_builtin;go_must (refine wpList_append_blk elemId (.tmp 43) (.tmp 45) 0 u5 a.len (idsV a n) w10.heap.size #[.int .i64 (m:Nat)] rfl rfl (by simp [Act.eval,Act.put]) (own_moreX hids ((Grows.refl _).alloc _)) (by simp [Act.eval,Act.put]) (blk_alloc_at _ _ _ _ rfl) rfl (by simp [OneCells,Value.oneCell']) (by omega) (Nat.zero_le _) ?_;intro e11 cap11 w11 hown11 hC11 hE11;have HC11:Hid (Chg (fun b=>u5.ownBlock=some b) w10 w11):=Lib.hid ((Chg.of_grows ((Grows.refl _).alloc _)).trans hC11);have HP11:=Lib.hid (HL4.out.push (x:=x) (k:=kids) HT4.out.old (by rw [HM.out];exact hown11) HC11.out rfl (hE11.imp_right (Nat.le_trans (by simp))));clear hown11 hC11 hE11))
     have d11:=cellC d0 HC11.out HB.out
     have ib11:InHeap b1 w11:=World.block_lt_of_cell? _ _ d11
     have hq11:∀ b,u5.ownBlock=some b→ow4 b=0:=fun b hb=>(HL4.out.own b hb).1
     have HT11:=Lib.hid (HT4.out.chg HC11.out hq11)
     have HK11:Hid (FrAt (fun b=>ow4 b=1) w11 K kc kids):=Lib.hid (HK4.out.chg HC11.out fun b _ h1 e=>by have:=hq11 b e;omega)
     have hcall:=HIH.out kids (by have:=HS3.out;have:=HSZ.out.1;omega) ow4 w11 (m+1) _ _ _ K kc HT11.out HK11.out (by have:=HS3.out;have:=HSZ.out.2;have:=HM.out;omega)
     clear hids d0 HL4 HT4 HK4 HC11 hq11
     go_wp2_with fail
     (with_reducible refine hcall.mono ?_)
     rintro e12 w12 ⟨ow5,vL5,vE5,ys5,I5,ic5,rfl,r1,r2,r3,r4⟩
     clear hcall d11 ib11
     obtain ⟨lb5,lc5,rfl,-,hlb5⟩:=r1.rl.form (by omega)
     obtain ⟨q1,q2,q3,q4,q5⟩:=HP11.out
     have hP5:FlRow (fun b=>ow5 b=1) w12 a n ys∧w12.ownsRow 0 3 1 (.slice (some ⟨e11,0,none⟩) (a.len+1) cap11) (a.app (Fr.one x kids)).len (idsV (a.app (Fr.one x kids)) n)∧(∀ b,(Value.slice (some ⟨e11,0,none⟩) (a.len+1) cap11).ownBlock=some b→ow5 b=0∧w.heap.size≤b)∧FrAt (fun b=>ow5 b=1) w12 (some ⟨b1,o1,none⟩) cap l∧ClNext ow ow5 w w12 :=
      ⟨q1.next r4,own_chgX q2 r4.chg fun b hb e=>by have:=(q3 b hb).1;omega,fun b hb=>⟨(r4.same b (own_ltX q2 hb).1).trans (q3 b hb).1,(q3 b hb).2⟩,q4.next r4,q5.trans r4⟩
     obtain ⟨g1,g2,g3,g4,g5⟩:=hP5
     have hdone:=AdRs.done HM.out HXS.out r1 g1 g2 g3 g4 g5 r2 r3 (HK11.out.next r4)
     have HDN:=Lib.hid hdone
     have hxl:(xs++ys++(dfC x (.slice K kids.len kc) (.slice none 0 0)).toList++ys5)[m*263+262]?=some (.slice none 0 0):=by
      have hf:(dfC x (.slice K kids.len kc) (.slice none 0 0)).toList.length=263:=by rw [Array.length_toList,dfC_size]
      rw [List.append_assoc (xs++ys),List.getElem?_append_right (by have:=HXS.out;omega),HXS.out,Nat.add_sub_cancel_left,List.getElem?_append_left (by omega),Array.getElem?_toList]
      exact dfA_262 (ndA_size _ _ _ _ _ _ _)
     obtain ⟨x1,x2⟩:=own_cellX r1.rl hxl
     obtain ⟨y0,y1,y2⟩:=r1.cells
     have yt:InHeap tb w12:=r1.lt
     have yl:InHeap lb5 w12:=hlb5
     have hmi:(m:Int) < (m:Int)+1+(kids.size:Int):=by omega
     clear q1 q2 q3 q4 q5 r1 r2 r3 r4 g1 g2 g3 g4 g5 hdone hxl HP11 HT11 HK11
     go_wp2_with fail
     go_roundg (gk - 1)
     case measure=>have:=HQ.out;omega
     case rel =>
      obtain ⟨ys2,z1,z2⟩:=HDN.out
      exact ⟨i+1,a.app (Fr.one x kids),rest,ow5,_,_,ys2,by have:=HQ.out;omega,by go_num,by rw [Fr.app_assoc];exact HF.out.1,by rw [Fr.len_app,HF.out.2];rfl,z1,z2⟩
end Go.Proofs.YtnjagecmhdagkaaGreatDoor
