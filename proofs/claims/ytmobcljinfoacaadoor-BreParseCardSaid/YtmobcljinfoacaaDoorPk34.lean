/-
  Patterns: the document's reader: what stands behind a backslash, but for a group.
-/
import Derived.Test.YtmobcljinfoacaaDoorPk33
namespace Go.Proofs.YtmobcljinfoacaaDoor
open Go.RowKit

/-- What a part leaves. -/
abbrev PartR (w : World) (g : Nat) (s : List UInt8) (r : Option (Nk × RdS)) := TimesR (fun b => b ≠ g ∧ w.heap.size ≤ b) w g s r
attribute [local go_sem ↓] zeroNodeR bldNdR_eq ldNodeR_eq stNodeR_eq
attribute [local go_sem] bldR_none bldR_byte bldR_n loadNodeR loadNodeR_if storeNodeR storeNodeR_if ndA_one_slice tx_bt
section
variable {w : World} {g at_ : Nat} {s : List UInt8} {r : RdS}
set_option maxRecDepth 3000 in
theorem StAt.ahead2 (h : StAt w g s at_ r false) {c0 c : UInt8} {l : List UInt8} (e : r.left = c0 :: c :: l) : at_ + 1 < s.length ∧ bt s (at_ + 1) = c.toNat := by
  have h1 := h.left
  rw [e] at h1
  have h2 : (s.drop at_).length = l.length + 2 := by rw [← h1]; rfl
  simp at h2
  refine ⟨by omega, ?_⟩
  rw [← bt_drop, ← h1]
  simp
/-- The result lies in a block of its own, beside the reader. -/
structure Zr (g : Nat) (W : World) (rb : Nat) (w : World) : Prop where
  chg : Chg (fun b => b = g) W w
  res : blk w rb = ndA 0 0 noSet 0 0 0 (.slice none 0 0)
  ne : rb ≠ g
  new : W.heap.size ≤ rb
set_option maxRecDepth 3000 in
theorem Zr.inh {W w : World} {rb : Nat} (h : Zr g W rb w) : InHeap rb w := Blk.inHeap h.res (by simp [ndA_size])
set_option maxRecDepth 3000 in
theorem Zr.step {W w w' : World} {rb : Nat} (h : Zr g W rb w) (hC : Chg (fun b => b = g) w w') : Zr g W rb w' := ⟨h.chg.trans hC, (chg_blk hC h.inh h.ne).trans h.res, h.ne, h.new⟩
set_option maxRecDepth 3000 in
theorem Zr.start {W w1 : World} (hg : InHeap g W) (h : Grows (W.alloc (.cells (ndA 0 0 noSet 0 0 0 (.slice none 0 0)) 65)) w1) : Zr g W W.heap.size w1 := by
  refine ⟨Chg.of_grows (((Grows.refl _).alloc _).trans h), ?_, fun e => by subst e; exact absurd hg (Nat.lt_irrefl _), Nat.le_refl _⟩
  obtain ⟨m, rfl⟩ := h
  exact (blk_more _ _ _ (by unfold InHeap; simp)).trans (blk_alloc_at _ _ _ _ rfl)
set_option maxRecDepth 3000 in
set_option maxHeartbeats 1000000 in
theorem rslash_end (h : StAt w g s at_ r false) (hl : s.length ≤ 1000) {c0 : UInt8} (e : r.left = [c0]) :
    Calls Tryd.prog 33 #[.pointer (some ⟨g, 0, none⟩)] w (PartR w g s none) := by
  have hz : at_ + 1 = s.length := by
    have h1 : (s.drop at_).length = 1 := by rw [← h.left, e]; rfl
    simp at h1; omega
  have e1 : ((at_ : Int) + 1 == (s.length : Int)) = true := by simp; omega
  obtain ⟨c0', c1, c2, c3, c4, c5⟩ := h.rd.cells
  have ig := h.inh
  have ff := h.rd.free
  have ha : at_ ≤ 1000 := by have := h.ale; omega
  have hgl : g < w.heap.size := h.inh
  have H := Lib.hid h
  clear h hz
  go_enter Tryd.func33, Tryd.ntmps33
  go_upto_region 1 with fail
  go_quiet (fail)
  have Z1 : Zr g w w.heap.size ((w.alloc (.cells (ndA 0 0 noSet 0 0 0 (.slice none 0 0)) 65)).drewN nq) := Zr.start ig ((Grows.refl _).drewN _)
  have S1 : StAt ((w.alloc (.cells (ndA 0 0 noSet 0 0 0 (.slice none 0 0)) 65)).drewN nq) g s at_ r false := H.out.grows (((Grows.refl _).alloc _).drewN _)
  generalize ((w.alloc (.cells (ndA 0 0 noSet 0 0 0 (.slice none 0 0)) 65)).drewN nq) = w1 at *
  clear c0' c1 c2 c3 c4 c5 ig ff
  obtain ⟨-, -, -, -, -, c5⟩ := S1.rd.cells
  have ig := S1.inh
  have ff := S1.rd.free
  go_upto_region 3 with fail
  have Z2 := Z1.step (chg_cell w1 g 1005 (.bool true))
  have S2 : StAt (w1.setCell ⟨g, 1005, none⟩ (.bool true)) g s at_ r true := ⟨S1.rd.set1005 true, S1.left, S1.ale, S1.many, S1.groups⟩
  clear c5 ig ff Z1 S1
  generalize w1.setCell ⟨g, 1005, none⟩ (.bool true) = w2 at *
  have hz := Z2.res
  have iz := Z2.inh
  have HZ := Lib.hid Z2
  have HS := Lib.hid S2
  clear Z2 S2
  go_wp2_with fail
  have hcs : Chg (fun b => b = w.heap.size) w2 (setBlk w2 w.heap.size (ndA 0 0 noSet 0 0 0 (.slice none 0 0))) := chg_row
  exact bodyPost_ret (results_nodeR 2 rfl rfl (Blk.get _ hz (by simp [ndA_size])) (ndA_size _ _ _ _ _ _ _)) rfl ⟨⟨ndK 0, none, 0, 0, rfl⟩, ⟨at_, r, HS.out.chg hcs (fun e => HZ.out.ne e.symm)⟩, chg_late HZ.out.chg hcs fun b hb e => by have := HZ.out.new; omega⟩
set_option maxRecDepth 3000 in
set_option maxHeartbeats 1000000 in
theorem rslash_byte (h : StAt w g s at_ r false) (hl : s.length ≤ 1000) {c0 c : UInt8} {l : List UInt8} (e : r.left = c0 :: c :: l) (h1 : ¬ c.toNat = 40) (h2 : ¬ (49 ≤ c.toNat ∧ c.toNat ≤ 57)) (h3 : ¬ (c.toNat = 123 ∨ c.toNat = 125 ∨ c.toNat = 41)) :
    Calls Tryd.prog 33 #[.pointer (some ⟨g, 0, none⟩)] w (PartR w g s (some ((byteN c.toNat, .nil), r.node 2))) := by
  obtain ⟨a1, hb⟩ := h.ahead2 e
  have e1 : ((at_ : Int) + 1 == (s.length : Int)) = false := by simp; omega
  have a2 : (at_ : Int) + 1 < (s.length : Int) := by omega
  have x1 : ((c.toNat : Int) == 40) = false := by simp; omega
  have x41 : ((c.toNat : Int) == 41) = false := by simp; omega
  have x123 : ((c.toNat : Int) == 123) = false := by simp; omega
  have x125 : ((c.toNat : Int) == 125) = false := by simp; omega
  obtain ⟨c0', c1, c2, c3, c4, c5⟩ := h.rd.cells
  have ig := h.inh
  have ff := h.rd.free
  have ha : at_ ≤ 1000 := by have := h.ale; omega
  have H := Lib.hid h
  have E := Lib.hid e
  clear h e
  rcases (show c.toNat < 49 ∨ 57 < c.toNat by omega) with k | k
  · have x2 : decide ((49 : Int) ≤ (c.toNat : Int)) = false := by rw [decide_eq_false_iff_not]; omega
    go_enter Tryd.func33, Tryd.ntmps33
    go_upto_region 1 with fail
    go_quiet (fail)
    have Z1 : Zr g w w.heap.size ((w.alloc (.cells (ndA 0 0 noSet 0 0 0 (.slice none 0 0)) 65)).drewN nq) := Zr.start ig ((Grows.refl _).drewN _)
    have S1 : StAt ((w.alloc (.cells (ndA 0 0 noSet 0 0 0 (.slice none 0 0)) 65)).drewN nq) g s at_ r false := H.out.grows (((Grows.refl _).alloc _).drewN _)
    generalize ((w.alloc (.cells (ndA 0 0 noSet 0 0 0 (.slice none 0 0)) 65)).drewN nq) = w1 at *
    clear c0' c1 c2 c3 c4 c5 ig ff nq
    obtain ⟨c0', c1, -, -, -, -⟩ := S1.rd.cells
    have ig := S1.inh
    go_upto_region 4 with fail
    go_quiet (fail)
    have Z2 := Z1.step (Chg.of_grows ((Grows.refl w1).drewN nq))
    have S2 := S1.grows ((Grows.refl w1).drewN nq)
    generalize w1.drewN nq = w2 at *
    clear Z1 S1 c0' c1 ig
    obtain ⟨-, -, -, -, -, c5⟩ := S2.rd.cells
    have ig := S2.inh
    have ff := S2.rd.free
    go_upto_region 22 with fail
    have Z3 := Z2.step (chg_cell w2 g 1005 (.bool false))
    have S3 : StAt (w2.setCell ⟨g, 1005, none⟩ (.bool false)) g s at_ r false := ⟨S2.rd.set1005 false, S2.left, S2.ale, S2.many, S2.groups⟩
    generalize w2.setCell ⟨g, 1005, none⟩ (.bool false) = w3 at *
    clear Z2 S2 c5 ig ff
    go_wp2_with fail
    (with_reducible refine (node_lit S3 hl 2 2 rfl (by omega) (by rw [E.out]; simp) 1 c.toNat noSet 0 0 0 none 0 0).mono ?_)
    rintro e w4 ⟨rfl, hS4, hC4⟩
    have Z4 := Z3.step hC4
    have hz := Z4.res
    have iz := Z4.inh
    have HZ := Lib.hid Z4
    have HS := Lib.hid hS4
    clear Z3 Z4 hS4 S3 hC4
    go_wp2_with fail
    have hcs : Chg (fun b => b = w.heap.size) w4 (setBlk w4 w.heap.size (ndA 1 c.toNat noSet 0 0 0 (.slice none 0 0))) := chg_row
    exact bodyPost_ret (results_nodeR 2 rfl rfl (Blk.get _ hz (by simp [ndA_size])) (ndA_size _ _ _ _ _ _ _)) rfl ⟨none, 0, rfl, FrAt.zero _ _, ⟨at_ + 2, HS.out.chg hcs (fun e => HZ.out.ne e.symm)⟩, chg_late HZ.out.chg hcs fun b hb e => by have := HZ.out.new; omega⟩
  · have x2 : (49 : Int) ≤ (c.toNat : Int) := by omega
    have x3 : decide ((c.toNat : Int) ≤ 57) = false := by rw [decide_eq_false_iff_not]; omega
    go_enter Tryd.func33, Tryd.ntmps33
    go_upto_region 1 with fail
    go_quiet (fail)
    have Z1 : Zr g w w.heap.size ((w.alloc (.cells (ndA 0 0 noSet 0 0 0 (.slice none 0 0)) 65)).drewN nq) := Zr.start ig ((Grows.refl _).drewN _)
    have S1 : StAt ((w.alloc (.cells (ndA 0 0 noSet 0 0 0 (.slice none 0 0)) 65)).drewN nq) g s at_ r false := H.out.grows (((Grows.refl _).alloc _).drewN _)
    generalize ((w.alloc (.cells (ndA 0 0 noSet 0 0 0 (.slice none 0 0)) 65)).drewN nq) = w1 at *
    clear c0' c1 c2 c3 c4 c5 ig ff nq
    obtain ⟨c0', c1, -, -, -, -⟩ := S1.rd.cells
    have ig := S1.inh
    go_upto_region 4 with fail
    go_quiet (fail)
    have Z2 := Z1.step (Chg.of_grows ((Grows.refl w1).drewN nq))
    have S2 := S1.grows ((Grows.refl w1).drewN nq)
    generalize w1.drewN nq = w2 at *
    clear Z1 S1 c0' c1 ig
    obtain ⟨-, -, -, -, -, c5⟩ := S2.rd.cells
    have ig := S2.inh
    have ff := S2.rd.free
    go_upto_region 22 with fail
    have Z3 := Z2.step (chg_cell w2 g 1005 (.bool false))
    have S3 : StAt (w2.setCell ⟨g, 1005, none⟩ (.bool false)) g s at_ r false := ⟨S2.rd.set1005 false, S2.left, S2.ale, S2.many, S2.groups⟩
    generalize w2.setCell ⟨g, 1005, none⟩ (.bool false) = w3 at *
    clear Z2 S2 c5 ig ff
    go_wp2_with fail
    (with_reducible refine (node_lit S3 hl 2 2 rfl (by omega) (by rw [E.out]; simp) 1 c.toNat noSet 0 0 0 none 0 0).mono ?_)
    rintro e w4 ⟨rfl, hS4, hC4⟩
    have Z4 := Z3.step hC4
    have hz := Z4.res
    have iz := Z4.inh
    have HZ := Lib.hid Z4
    have HS := Lib.hid hS4
    clear Z3 Z4 hS4 S3 hC4
    go_wp2_with fail
    have hcs : Chg (fun b => b = w.heap.size) w4 (setBlk w4 w.heap.size (ndA 1 c.toNat noSet 0 0 0 (.slice none 0 0))) := chg_row
    exact bodyPost_ret (results_nodeR 2 rfl rfl (Blk.get _ hz (by simp [ndA_size])) (ndA_size _ _ _ _ _ _ _)) rfl ⟨none, 0, rfl, FrAt.zero _ _, ⟨at_ + 2, HS.out.chg hcs (fun e => HZ.out.ne e.symm)⟩, chg_late HZ.out.chg hcs fun b hb e => by have := HZ.out.new; omega⟩
set_option maxRecDepth 3000 in
set_option maxHeartbeats 1000000 in
theorem rslash_bad (h : StAt w g s at_ r false) (hl : s.length ≤ 1000) {c0 c : UInt8} {l : List UInt8} (e : r.left = c0 :: c :: l) (h3 : c.toNat = 123 ∨ c.toNat = 125 ∨ c.toNat = 41) :
    Calls Tryd.prog 33 #[.pointer (some ⟨g, 0, none⟩)] w (PartR w g s none) := by
  obtain ⟨a1, hb⟩ := h.ahead2 e
  have e1 : ((at_ : Int) + 1 == (s.length : Int)) = false := by simp; omega
  have a2 : (at_ : Int) + 1 < (s.length : Int) := by omega
  obtain ⟨c0', c1, c2, c3, c4, c5⟩ := h.rd.cells
  have ig := h.inh
  have ff := h.rd.free
  have ha : at_ ≤ 1000 := by have := h.ale; omega
  have H := Lib.hid h
  have E := Lib.hid e
  clear h e
  rcases h3 with k | k | k
  · rw [k] at hb
    go_enter Tryd.func33, Tryd.ntmps33
    go_upto_region 1 with fail
    go_quiet (fail)
    have Z1 : Zr g w w.heap.size ((w.alloc (.cells (ndA 0 0 noSet 0 0 0 (.slice none 0 0)) 65)).drewN nq) := Zr.start ig ((Grows.refl _).drewN _)
    have S1 : StAt ((w.alloc (.cells (ndA 0 0 noSet 0 0 0 (.slice none 0 0)) 65)).drewN nq) g s at_ r false := H.out.grows (((Grows.refl _).alloc _).drewN _)
    generalize ((w.alloc (.cells (ndA 0 0 noSet 0 0 0 (.slice none 0 0)) 65)).drewN nq) = w1 at *
    clear c0' c1 c2 c3 c4 c5 ig ff nq
    obtain ⟨c0', c1, -, -, -, -⟩ := S1.rd.cells
    have ig := S1.inh
    go_upto_region 4 with fail
    go_quiet (fail)
    have Z2 := Z1.step (Chg.of_grows ((Grows.refl w1).drewN nq))
    have S2 := S1.grows ((Grows.refl w1).drewN nq)
    generalize w1.drewN nq = w2 at *
    clear Z1 S1 c0' c1 ig
    obtain ⟨-, -, -, -, c4, c5⟩ := S2.rd.cells
    have ig := S2.inh
    have ff := S2.rd.free
    go_upto_region 22 with fail
    have Z3 := Z2.step (chg_cell w2 g 1005 (.bool true))
    have S3 : StAt (w2.setCell ⟨g, 1005, none⟩ (.bool true)) g s at_ r true := ⟨S2.rd.set1005 true, S2.left, S2.ale, S2.many, S2.groups⟩
    generalize w2.setCell ⟨g, 1005, none⟩ (.bool true) = w3 at *
    clear Z2 S2 c4 c5 ig ff
    go_wp2_with fail
    (with_reducible refine (node_lit S3 hl 2 2 rfl (by omega) (show 2 ≤ r.left.length by rw [E.out]; simp) 1 123 noSet 0 0 0 none 0 0).mono ?_)
    rintro e w4 ⟨rfl, hS4, hC4⟩
    have Z4 := Z3.step hC4
    have hz := Z4.res
    have iz := Z4.inh
    have HZ := Lib.hid Z4
    have HS := Lib.hid hS4
    clear Z3 Z4 hS4 S3 hC4
    go_wp2_with fail
    have hcs : Chg (fun b => b = w.heap.size) w4 (setBlk w4 w.heap.size (ndA 1 123 noSet 0 0 0 (.slice none 0 0))) := chg_row
    exact bodyPost_ret (results_nodeR 2 rfl rfl (Blk.get _ hz (by simp [ndA_size])) (ndA_size _ _ _ _ _ _ _)) rfl ⟨⟨byteN 123, none, 0, 0, rfl⟩, ⟨at_ + 2, _, HS.out.chg hcs (fun e => HZ.out.ne e.symm)⟩, chg_late HZ.out.chg hcs fun b hb e => by have := HZ.out.new; omega⟩
  · rw [k] at hb
    go_enter Tryd.func33, Tryd.ntmps33
    go_upto_region 1 with fail
    go_quiet (fail)
    have Z1 : Zr g w w.heap.size ((w.alloc (.cells (ndA 0 0 noSet 0 0 0 (.slice none 0 0)) 65)).drewN nq) := Zr.start ig ((Grows.refl _).drewN _)
    have S1 : StAt ((w.alloc (.cells (ndA 0 0 noSet 0 0 0 (.slice none 0 0)) 65)).drewN nq) g s at_ r false := H.out.grows (((Grows.refl _).alloc _).drewN _)
    generalize ((w.alloc (.cells (ndA 0 0 noSet 0 0 0 (.slice none 0 0)) 65)).drewN nq) = w1 at *
    clear c0' c1 c2 c3 c4 c5 ig ff nq
    obtain ⟨c0', c1, -, -, -, -⟩ := S1.rd.cells
    have ig := S1.inh
    go_upto_region 4 with fail
    go_quiet (fail)
    have Z2 := Z1.step (Chg.of_grows ((Grows.refl w1).drewN nq))
    have S2 := S1.grows ((Grows.refl w1).drewN nq)
    generalize w1.drewN nq = w2 at *
    clear Z1 S1 c0' c1 ig
    obtain ⟨-, -, -, -, c4, c5⟩ := S2.rd.cells
    have ig := S2.inh
    have ff := S2.rd.free
    go_upto_region 22 with fail
    have Z3 := Z2.step (chg_cell w2 g 1005 (.bool true))
    have S3 : StAt (w2.setCell ⟨g, 1005, none⟩ (.bool true)) g s at_ r true := ⟨S2.rd.set1005 true, S2.left, S2.ale, S2.many, S2.groups⟩
    generalize w2.setCell ⟨g, 1005, none⟩ (.bool true) = w3 at *
    clear Z2 S2 c4 c5 ig ff
    go_wp2_with fail
    (with_reducible refine (node_lit S3 hl 2 2 rfl (by omega) (show 2 ≤ r.left.length by rw [E.out]; simp) 1 125 noSet 0 0 0 none 0 0).mono ?_)
    rintro e w4 ⟨rfl, hS4, hC4⟩
    have Z4 := Z3.step hC4
    have hz := Z4.res
    have iz := Z4.inh
    have HZ := Lib.hid Z4
    have HS := Lib.hid hS4
    clear Z3 Z4 hS4 S3 hC4
    go_wp2_with fail
    have hcs : Chg (fun b => b = w.heap.size) w4 (setBlk w4 w.heap.size (ndA 1 125 noSet 0 0 0 (.slice none 0 0))) := chg_row
    exact bodyPost_ret (results_nodeR 2 rfl rfl (Blk.get _ hz (by simp [ndA_size])) (ndA_size _ _ _ _ _ _ _)) rfl ⟨⟨byteN 125, none, 0, 0, rfl⟩, ⟨at_ + 2, _, HS.out.chg hcs (fun e => HZ.out.ne e.symm)⟩, chg_late HZ.out.chg hcs fun b hb e => by have := HZ.out.new; omega⟩
  · rw [k] at hb
    have x2 : decide ((49 : Int) ≤ 41) = false := by decide
    go_enter Tryd.func33, Tryd.ntmps33
    go_upto_region 1 with fail
    go_quiet (fail)
    have Z1 : Zr g w w.heap.size ((w.alloc (.cells (ndA 0 0 noSet 0 0 0 (.slice none 0 0)) 65)).drewN nq) := Zr.start ig ((Grows.refl _).drewN _)
    have S1 : StAt ((w.alloc (.cells (ndA 0 0 noSet 0 0 0 (.slice none 0 0)) 65)).drewN nq) g s at_ r false := H.out.grows (((Grows.refl _).alloc _).drewN _)
    generalize ((w.alloc (.cells (ndA 0 0 noSet 0 0 0 (.slice none 0 0)) 65)).drewN nq) = w1 at *
    clear c0' c1 c2 c3 c4 c5 ig ff nq
    obtain ⟨c0', c1, -, -, -, -⟩ := S1.rd.cells
    have ig := S1.inh
    go_upto_region 4 with fail
    go_quiet (fail)
    have Z2 := Z1.step (Chg.of_grows ((Grows.refl w1).drewN nq))
    have S2 := S1.grows ((Grows.refl w1).drewN nq)
    generalize w1.drewN nq = w2 at *
    clear Z1 S1 c0' c1 ig
    obtain ⟨-, -, -, -, c4, c5⟩ := S2.rd.cells
    have ig := S2.inh
    have ff := S2.rd.free
    go_upto_region 22 with fail
    have Z3 := Z2.step (chg_cell w2 g 1005 (.bool true))
    have S3 : StAt (w2.setCell ⟨g, 1005, none⟩ (.bool true)) g s at_ r true := ⟨S2.rd.set1005 true, S2.left, S2.ale, S2.many, S2.groups⟩
    generalize w2.setCell ⟨g, 1005, none⟩ (.bool true) = w3 at *
    clear Z2 S2 c4 c5 ig ff
    go_wp2_with fail
    (with_reducible refine (node_lit S3 hl 2 2 rfl (by omega) (show 2 ≤ r.left.length by rw [E.out]; simp) 1 41 noSet 0 0 0 none 0 0).mono ?_)
    rintro e w4 ⟨rfl, hS4, hC4⟩
    have Z4 := Z3.step hC4
    have hz := Z4.res
    have iz := Z4.inh
    have HZ := Lib.hid Z4
    have HS := Lib.hid hS4
    clear Z3 Z4 hS4 S3 hC4
    go_wp2_with fail
    have hcs : Chg (fun b => b = w.heap.size) w4 (setBlk w4 w.heap.size (ndA 1 41 noSet 0 0 0 (.slice none 0 0))) := chg_row
    exact bodyPost_ret (results_nodeR 2 rfl rfl (Blk.get _ hz (by simp [ndA_size])) (ndA_size _ _ _ _ _ _ _)) rfl ⟨⟨byteN 41, none, 0, 0, rfl⟩, ⟨at_ + 2, _, HS.out.chg hcs (fun e => HZ.out.ne e.symm)⟩, chg_late HZ.out.chg hcs fun b hb e => by have := HZ.out.new; omega⟩
set_option maxRecDepth 100000 in
set_option maxHeartbeats 1000000 in
theorem rslash_ref (h : StAt w g s at_ r false) (hl : s.length ≤ 1000) {c0 c : UInt8} {l : List UInt8} (e : r.left = c0 :: c :: l) (h2 : 49 ≤ c.toNat ∧ c.toNat ≤ 57) :
    Calls Tryd.prog 33 #[.pointer (some ⟨g, 0, none⟩)] w (PartR w g s (if r.ended (c.toNat - 48) = true then some ((refN (c.toNat - 48), .nil), { r.node 2 with refs := true }) else none)) := by
  obtain ⟨a1, hb⟩ := h.ahead2 e
  have e1 : ((at_ : Int) + 1 == (s.length : Int)) = false := by simp; omega
  have a2 : (at_ : Int) + 1 < (s.length : Int) := by omega
  obtain ⟨K, hK⟩ : ∃ K : Nat, c.toNat - 48 = K := ⟨_, rfl⟩
  have x1 : ((c.toNat : Int) == 40) = false := by simp; omega
  have x2 : (49 : Int) ≤ (c.toNat : Int) := by omega
  have x3 : (c.toNat : Int) ≤ 57 := by omega
  have x4 : (c.toNat : Int) - 48 = (K : Int) := by omega
  have x5 : K < 1000 := by omega
  have x6 : (K : Int) < 1000 := by omega
  rw [hK]
  clear hK
  obtain ⟨c0', c1, c2, c3, c4, c5⟩ := h.rd.cells
  have ig := h.inh
  have ff := h.rd.free
  have ha : at_ ≤ 1000 := by have := h.ale; omega
  have H := Lib.hid h
  have E := Lib.hid e
  clear h e
  cases hen : r.ended K with
  | true =>
    have HEN := Lib.hid hen
    clear hen
    go_enter Tryd.func33, Tryd.ntmps33
    go_upto_region 1 with fail
    go_quiet (fail)
    have Z1 : Zr g w w.heap.size ((w.alloc (.cells (ndA 0 0 noSet 0 0 0 (.slice none 0 0)) 65)).drewN nq) := Zr.start ig ((Grows.refl _).drewN _)
    have S1 : StAt ((w.alloc (.cells (ndA 0 0 noSet 0 0 0 (.slice none 0 0)) 65)).drewN nq) g s at_ r false := H.out.grows (((Grows.refl _).alloc _).drewN _)
    generalize ((w.alloc (.cells (ndA 0 0 noSet 0 0 0 (.slice none 0 0)) 65)).drewN nq) = w1 at *
    clear c0' c1 c2 c3 c4 c5 ig ff nq
    obtain ⟨c0', c1, -, -, -, -⟩ := S1.rd.cells
    have ig := S1.inh
    go_upto_region 4 with fail
    go_quiet (fail)
    have Z2 := Z1.step (Chg.of_grows ((Grows.refl w1).drewN nq))
    have S2 := S1.grows ((Grows.refl w1).drewN nq)
    generalize w1.drewN nq = w2 at *
    clear Z1 S1 c0' c1 ig
    obtain ⟨-, -, -, -, c4, c5⟩ := S2.rd.cells
    have ig := S2.inh
    have ff := S2.rd.free
    have ce := (S2.rd.cell (4 + K)).trans (rdA_at _ _ _ _ _ _ _ K x5)
    rw [HEN.out] at ce
    go_upto_region 20 with fail
    have Z3 := (Z2.step (chg_cell w2 g 1004 (.bool true))).step (chg_cell _ g 1005 (.bool false))
    have S3 : StAt ((w2.setCell ⟨g, 1004, none⟩ (.bool true)).setCell ⟨g, 1005, none⟩ (.bool false)) g s at_ { r with refs := true } false := ⟨(S2.rd.set1004 true).set1005 false, S2.left, S2.ale, S2.many, S2.groups⟩
    generalize (w2.setCell ⟨g, 1004, none⟩ (.bool true)).setCell ⟨g, 1005, none⟩ (.bool false) = w3 at *
    clear Z2 S2 c4 c5 ig ff ce
    go_wp2_with fail
    (with_reducible refine (node_lit S3 hl 2 2 rfl (by omega) (show 2 ≤ r.left.length by rw [E.out]; simp) 6 0 noSet K 0 0 none 0 0).mono ?_)
    rintro e w4 ⟨rfl, hS4, hC4⟩
    have Z4 := Z3.step hC4
    have hz := Z4.res
    have iz := Z4.inh
    have HZ := Lib.hid Z4
    have HS := Lib.hid hS4
    clear Z3 Z4 hS4 S3 hC4
    go_wp2_with fail
    have hcs : Chg (fun b => b = w.heap.size) w4 (setBlk w4 w.heap.size (ndA 6 0 noSet K 0 0 (.slice none 0 0))) := chg_row
    exact bodyPost_ret (results_nodeR 2 rfl rfl (Blk.get _ hz (by simp [ndA_size])) (ndA_size _ _ _ _ _ _ _)) rfl ⟨none, 0, rfl, FrAt.zero _ _, ⟨at_ + 2, HS.out.chg hcs (fun e => HZ.out.ne e.symm)⟩, chg_late HZ.out.chg hcs fun b hb e => by have := HZ.out.new; omega⟩
  | false =>
    have HEN := Lib.hid hen
    clear hen
    go_enter Tryd.func33, Tryd.ntmps33
    go_upto_region 1 with fail
    go_quiet (fail)
    have Z1 : Zr g w w.heap.size ((w.alloc (.cells (ndA 0 0 noSet 0 0 0 (.slice none 0 0)) 65)).drewN nq) := Zr.start ig ((Grows.refl _).drewN _)
    have S1 : StAt ((w.alloc (.cells (ndA 0 0 noSet 0 0 0 (.slice none 0 0)) 65)).drewN nq) g s at_ r false := H.out.grows (((Grows.refl _).alloc _).drewN _)
    generalize ((w.alloc (.cells (ndA 0 0 noSet 0 0 0 (.slice none 0 0)) 65)).drewN nq) = w1 at *
    clear c0' c1 c2 c3 c4 c5 ig ff nq
    obtain ⟨c0', c1, -, -, -, -⟩ := S1.rd.cells
    have ig := S1.inh
    go_upto_region 4 with fail
    go_quiet (fail)
    have Z2 := Z1.step (Chg.of_grows ((Grows.refl w1).drewN nq))
    have S2 := S1.grows ((Grows.refl w1).drewN nq)
    generalize w1.drewN nq = w2 at *
    clear Z1 S1 c0' c1 ig
    obtain ⟨-, -, -, -, c4, c5⟩ := S2.rd.cells
    have ig := S2.inh
    have ff := S2.rd.free
    have ce := (S2.rd.cell (4 + K)).trans (rdA_at _ _ _ _ _ _ _ K x5)
    rw [HEN.out] at ce
    go_upto_region 20 with fail
    have Z3 := (Z2.step (chg_cell w2 g 1004 (.bool true))).step (chg_cell _ g 1005 (.bool true))
    have S3 : StAt ((w2.setCell ⟨g, 1004, none⟩ (.bool true)).setCell ⟨g, 1005, none⟩ (.bool true)) g s at_ { r with refs := true } true := ⟨(S2.rd.set1004 true).set1005 true, S2.left, S2.ale, S2.many, S2.groups⟩
    generalize (w2.setCell ⟨g, 1004, none⟩ (.bool true)).setCell ⟨g, 1005, none⟩ (.bool true) = w3 at *
    clear Z2 S2 c4 c5 ig ff ce
    go_wp2_with fail
    (with_reducible refine (node_lit S3 hl 2 2 rfl (by omega) (show 2 ≤ r.left.length by rw [E.out]; simp) 6 0 noSet K 0 0 none 0 0).mono ?_)
    rintro e w4 ⟨rfl, hS4, hC4⟩
    have Z4 := Z3.step hC4
    have hz := Z4.res
    have iz := Z4.inh
    have HZ := Lib.hid Z4
    have HS := Lib.hid hS4
    clear Z3 Z4 hS4 S3 hC4
    go_wp2_with fail
    have hcs : Chg (fun b => b = w.heap.size) w4 (setBlk w4 w.heap.size (ndA 6 0 noSet K 0 0 (.slice none 0 0))) := chg_row
    exact bodyPost_ret (results_nodeR 2 rfl rfl (Blk.get _ hz (by simp [ndA_size])) (ndA_size _ _ _ _ _ _ _)) rfl ⟨⟨refN K, none, 0, 0, rfl⟩, ⟨at_ + 2, _, HS.out.chg hcs (fun e => HZ.out.ne e.symm)⟩, chg_late HZ.out.chg hcs fun b hb e => by have := HZ.out.new; omega⟩
end
end Go.Proofs.YtmobcljinfoacaaDoor
