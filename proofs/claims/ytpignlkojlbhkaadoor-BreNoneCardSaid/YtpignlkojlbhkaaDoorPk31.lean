/-
  Patterns: a byte that stands for itself; how a part that was read is handed back.
-/
import Derived.Test.YtpignlkojlbhkaaDoorPk30
namespace Go.Proofs.YtpignlkojlbhkaaDoor
open Go.RowKit

set_option maxRecDepth 3000 in
theorem chg_blk {p : Nat → Prop} {w w' : World} (h : Chg p w w') {b : Nat} (hb : b < w.heap.size) (hp : ¬ p b) : blk w' b = blk w b := by
  unfold blk; rw [h.block b hb hp]
set_option maxRecDepth 3000 in
theorem chg_row {w : World} {g : Nat} {c : Array Value} : Chg (fun b => b = g) w (setBlk w g c) := by
  refine ⟨rfl, rfl, rfl, by simp, fun b _ hp => ?_⟩
  have hne : g ≠ b := fun e => hp e.symm
  show (w.heap.modify g _)[b]? = w.heap[b]?
  rw [Array.getElem?_modify, if_neg hne]
section
variable {base g rb : Nat} {W w w' w2 : World} {tv ov ov' v : Value} {s t : PS} {q : Nat → Prop} {y : Nk} {c : Array Value}
set_option maxRecDepth 3000 in
theorem Pa.chg (h : Pa base w g tv ov s) (hc : Chg q w w') (hq : ∀ b, PaK g ov b → ¬ q b) : Pa base w' g tv ov s := by
  refine ⟨(chg_blk hc h.inh (hq g (.inl rfl))).trans h.cells, ?_, h.ne, h.low, h.parts, h.groups, h.left, h.op⟩
  obtain ⟨h1, h2⟩ := h.own
  refine ⟨h1, h2.elim .inl ?_⟩
  rintro ⟨e, cap, cur, rfl, hb2, hh, r⟩
  exact .inr ⟨e, cap, cur, rfl, hb2, (hc.block e (Array.getElem?_eq_some_iff.1 hh).1 (hq e (.inr rfl))).trans hh, r⟩
set_option maxRecDepth 3000 in
theorem nk_ret (hP : Pa base w2 g tv ov' t) (hst : StepP (PaK g ov) (PaK g ov') W w2) (hrb : W.heap.size ≤ rb) (hrK : ¬ PaK g ov' rb) (hN : NkAt (fun b => (W.heap.size ≤ b ∧ ¬ PaK g ov' b) ∧ b ≠ rb) w2 v y) :
    Pa base (setBlk w2 rb c) g tv ov' t ∧ StepP (PaK g ov) (PaK g ov') W (setBlk w2 rb c) ∧ NkAt (fun b => W.heap.size ≤ b ∧ ¬ PaK g ov' b) (setBlk w2 rb c) v y := by
  have hc : Chg (fun b => b = rb) w2 (setBlk w2 rb c) := chg_row
  refine ⟨hP.chg hc fun b hb e => hrK (e ▸ hb), ⟨chg_late hst.chg hc fun x hx e => by omega, hst.new⟩, (hN.chg hc fun b _ h => h.2).mono fun b _ h => h.1⟩
set_option maxRecDepth 3000 in
theorem Pa.fresh (h : Pa base w g tv ov s) : ¬ PaK g ov w.heap.size := fun hb => Nat.lt_irrefl _ (h.own_lt hb)
set_option maxRecDepth 3000 in
/-- A leaf is handed back. -/
theorem leaf_ret (h : Pa base w g tv ov s) (hP : Pa base w2 g tv ov t) (hC : Chg (fun b => b = g) w w2) (x : NdV) : ∃ v ov', Ending.returned (.agg (ndC x (.slice none 0 0))) = .returned v ∧ Pa base (setBlk w2 w.heap.size c) g tv ov' t ∧ StepP (PaK g ov) (PaK g ov') w (setBlk w2 w.heap.size c) ∧ NkAt (fun b => w.heap.size ≤ b ∧ ¬ PaK g ov' b) (setBlk w2 w.heap.size c) v (x, .nil) := by
  obtain ⟨h1, h2, h3⟩ := nk_ret (c := c) hP (StepP.of_chg (hC.mono fun b _ e => (.inl e : PaK g ov b))) (Nat.le_refl w.heap.size) h.fresh (NkAt.leaf _ _ x)
  exact ⟨_, ov, rfl, h1, h2, h3⟩
attribute [local go_sem ↓] zeroNode bldNd_eq ldNode_eq stNode_eq
attribute [local go_sem] bld_kind bld_byte bld_set bld_n bld_star bld_times loadNode loadNode_if storeNode storeNode_if ndA_one_slice ndA_0 ndA_258 ndA_261 tx_bt tx_from
set_option maxRecDepth 3000 in
theorem tail_tx (a : UInt8) (l : List UInt8) : (tx (a :: l)).extract 1 (l.length + 1) = tx l := by
  have := tx_from (a :: l) 1
  simpa using this
set_option maxRecDepth 3000 in
set_option maxHeartbeats 1000000 in
theorem self_any (h : Pa base w g tv ov s) (a : UInt8) (l : List UInt8) (hl : s.left = a :: l) :
    Calls Tryd.prog 37 #[.pointer (some ⟨g, 0, none⟩)] w (NkPost base g tv ov w (selfV a.toNat { s with left := l })) := by
  have ig := h.inh
  obtain ⟨q0, -⟩ := h.six
  have ff := h.free
  rw [hl] at q0
  have hx := tail_tx a l
  have H := Lib.hid h
  have hP0 := Lib.hid (h.setLeft l (by rw [hl]; simp) (tx l) rfl)
  clear h hl
  by_cases hp : s.parts + 1 ≤ 200
  · have hV : Hid (selfV a.toNat { s with left := l } = some ((byteN a.toNat, .nil), { s with left := l, parts := s.parts + 1 })) := Lib.hid (by unfold selfV node1; rw [if_pos hp]; rfl)
    go_enter Tryd.func37, Tryd.ntmps37
    go_wp2_with fail
    have P1 := Lib.hid (hP0.out.grows ((Grows.refl _).alloc (.cells (ndA 0 0 noSet 0 0 0 (.slice none 0 0)) 41)))
    have hs1 : (w.setCell ⟨g, 0, none⟩ (.string (tx l))).heap.size = w.heap.size := by simp
    have C1 := Lib.hid ((chg_cell w g 0 (.string (tx l))).trans (Chg.of_grows ((Grows.refl (w.setCell ⟨g, 0, none⟩ (.string (tx l)))).alloc (.cells (ndA 0 0 noSet 0 0 0 (.slice none 0 0)) 41))))
    have hb1 : blk ((w.setCell ⟨g, 0, none⟩ (.string (tx l))).alloc (.cells (ndA 0 0 noSet 0 0 0 (.slice none 0 0)) 41)) w.heap.size = ndA 0 0 noSet 0 0 0 (.slice none 0 0) := blk_alloc_at _ _ _ _ hs1.symm
    generalize (w.setCell ⟨g, 0, none⟩ (.string (tx l))).alloc (.cells (ndA 0 0 noSet 0 0 0 (.slice none 0 0)) 41) = w1 at *
    have i1 : w.heap.size < w1.heap.size := Blk.inHeap hb1 (by simp [ndA_size])
    (with_reducible refine (node_ok P1.out hp 1 a.toNat noSet 0 0 0 none 0 0).mono ?_)
    rintro e w2 ⟨rfl, hP, hC⟩
    have hne : ¬ w.heap.size = g := fun e => Nat.lt_irrefl _ (e ▸ ig)
    have hb2 := (chg_blk hC i1 hne).trans hb1
    have i2 : InHeap w.heap.size w2 := Blk.inHeap hb2 (by simp [ndA_size])
    have HP := Lib.hid hP
    have HC := Lib.hid hC
    clear hP hC hb1
    go_wp2_with fail
    rw [hV.out]
    exact bodyPost_ret (results_node 2 rfl rfl (Blk.get _ hb2 (by simp [ndA_size])) (ndA_size _ _ _ _ _ _ _)) rfl (leaf_ret H.out HP.out (C1.out.trans HC.out) (byteN a.toNat))
  · have hV : Hid (selfV a.toNat { s with left := l } = none) := Lib.hid (by unfold selfV node1; rw [if_neg hp]; rfl)
    go_enter Tryd.func37, Tryd.ntmps37
    go_wp2_with fail
    have P1 := Lib.hid (hP0.out.grows ((Grows.refl _).alloc (.cells (ndA 0 0 noSet 0 0 0 (.slice none 0 0)) 41)))
    have C1 := Lib.hid ((chg_cell w g 0 (.string (tx l))).trans (Chg.of_grows ((Grows.refl (w.setCell ⟨g, 0, none⟩ (.string (tx l)))).alloc (.cells (ndA 0 0 noSet 0 0 0 (.slice none 0 0)) 41))))
    generalize (w.setCell ⟨g, 0, none⟩ (.string (tx l))).alloc (.cells (ndA 0 0 noSet 0 0 0 (.slice none 0 0)) 41) = w1 at *
    (with_reducible refine (node_no P1.out hp _ (ndA_one_slice _ _ _ _ _ _ _ _ _) (ndA_size _ _ _ _ _ _ _)).mono ?_)
    rintro e w2 ⟨rfl, hC⟩
    rw [hV.out]
    exact ⟨rfl, rfl, (C1.out.trans hC).mono fun b _ e => .inl e⟩
end
end Go.Proofs.YtpignlkojlbhkaaDoor
