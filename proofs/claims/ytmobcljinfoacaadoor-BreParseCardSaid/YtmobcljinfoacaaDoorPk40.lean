/-
  Patterns: the document's reader: a part, the last case and all. (Printed by brerdq.py.)
-/
import Derived.Test.YtmobcljinfoacaaDoorPk39
namespace Go.Proofs.YtmobcljinfoacaaDoor
open Go.RowKit

section
variable {w : World} {g at_ : Nat} {s : List UInt8} {r : RdS}
attribute [local go_sem ↓] zeroNodeR bldNdR_eq ldNodeR_eq stNodeR_eq zero22
attribute [local go_sem] bldR_none bldR_kind bldR_byte bldR_set bldR_n loadNodeR loadNodeR_if storeNodeR storeNodeR_if ndA_one_slice tx_bt
set_option maxRecDepth 100000 in
set_option maxHeartbeats 2000000 in
theorem rpart_else (h : StAt w g s at_ r false) (hl : s.length ≤ 1000) (first begun : Bool) {c : UInt8} {l : List UInt8} (e : r.left = c :: l) (j92 : ¬ c.toNat = 92) (j91 : ¬ c.toNat = 91) (j46 : ¬ c.toNat = 46) (j94 : ¬ c.toNat = 94) (j36 : ¬ c.toNat = 36) (j42 : ¬ c.toNat = 42) (row : RdS → Option (Fr × RdS))
    (hrow : ∀ (t : RdS) (at2 : Nat) (w : World), t.left.length < r.left.length → StAt w g s at2 t false → Calls Tryd.prog 17 #[.pointer (some ⟨g, 0, none⟩)] w (RowR w g s (row t))) :
    Calls Tryd.prog 23 #[.pointer (some ⟨g, 0, none⟩), .bool first, .bool begun] w (PartR w g s (partR row first begun r)) := by
  obtain ⟨a1, hb, hend⟩ := h.ahead1 e
  have a2 : (at_ : Int) < (s.length : Int) := by omega
  obtain ⟨R, hR⟩ : ∃ R, partR row first begun r = R := ⟨_, rfl⟩
  have hV : R = (if c.toNat = 92 then slashR row r
    else if c.toNat = 91 then (parseV (c :: l)).map fun y => ((setN y.1, .nil), r.node y.2)
    else if c.toNat = 46 then some ((ndK 2, .nil), r.node 1)
    else if c.toNat = 94 ∧ first = true then some ((ndK 4, .nil), r.node 1)
    else if c.toNat = 36 ∧ (l = [] ∨ ahead [92, 41] l = true) then some ((ndK 5, .nil), r.node 1)
    else if c.toNat = 42 ∧ first = false ∧ begun = false then none
    else some ((byteN c.toNat, .nil), r.node 1)) := by rw [← hR]; unfold partR; rw [e]
  rw [hR]
  clear hR
  obtain ⟨c0', c1, -, -, -, -⟩ := h.rd.cells
  have ig := h.inh
  have ha : at_ ≤ 1000 := by omega
  have hd36 : c.toNat = 36 → ahead [36, 92, 41] r.left = ahead [92, 41] l := by
    intro k
    have hc : c = 36 := UInt8.toNat_inj.1 k
    rw [e, hc]
    rfl
  have hlen1 : 1 ≤ r.left.length := by rw [e]; simp
  have hdrop : s.drop at_ = c :: l := by rw [← h.left, e]
  have HD := Lib.hid hdrop
  have HE := Lib.hid e
  have HL := Lib.hid hlen1
  have HW := Lib.hid hrow
  have H := Lib.hid h
  have HEND := Lib.hid hend
  have HD36 := Lib.hid hd36
  clear hdrop h e hlen1 hrow hend hd36
  obtain ⟨n, hn⟩ : ∃ n, c.toNat = n := ⟨_, rfl⟩
  rw [hn] at hV hb
  have k92 : ¬ n = 92 := by rw [← hn]; exact j92
  have k91 : ¬ n = 91 := by rw [← hn]; exact j91
  have k46 : ¬ n = 46 := by rw [← hn]; exact j46
  have k94 : ¬ n = 94 := by rw [← hn]; exact j94
  have k36 : ¬ n = 36 := by rw [← hn]; exact j36
  have k42 : ¬ n = 42 := by rw [← hn]; exact j42
  have HN := Lib.hid hn
  clear hn
  go_enter Tryd.func23, Tryd.ntmps23
  go_upto_region 3 with fail
  have Z1 : Zr g w w.heap.size (w.alloc (.cells (ndA 0 0 noSet 0 0 0 (.slice none 0 0)) 65)) := Zr.start ig (Grows.refl _)
  have S1 : StAt (w.alloc (.cells (ndA 0 0 noSet 0 0 0 (.slice none 0 0)) 65)) g s at_ r false := H.out.grows ((Grows.refl _).alloc _)
  generalize (w.alloc (.cells (ndA 0 0 noSet 0 0 0 (.slice none 0 0)) 65)) = w1 at *
  clear c0' c1 ig H
  obtain ⟨c0', c1, -, -, -, c5⟩ := S1.rd.cells
  have ig := S1.inh
  have ff := S1.rd.free
  have HZ1 := Lib.hid Z1
  have HS1 := Lib.hid S1
  clear Z1 S1
  rw [if_neg k92] at hV
  have e92 : ((n : Int) == 92) = false := by rw [beq_eq_false_iff_ne]; omega
  rw [if_neg k91] at hV
  have e91 : ((n : Int) == 91) = false := by rw [beq_eq_false_iff_ne]; omega
  rw [if_neg k46] at hV
  have e46 : ((n : Int) == 46) = false := by rw [beq_eq_false_iff_ne]; omega
  rw [if_neg (fun h => k94 h.1)] at hV
  have e94 : ((n : Int) == 94) = false := by rw [beq_eq_false_iff_ne]; omega
  rw [if_neg (fun h => k36 h.1)] at hV
  have e36 : ((n : Int) == 36) = false := by rw [beq_eq_false_iff_ne]; omega
  rw [if_neg (fun h => k42 h.1)] at hV
  have e42 : ((n : Int) == 42) = false := by rw [beq_eq_false_iff_ne]; omega
  have HV := Lib.hid hV
  clear hV
  go_wp2_with fail
  (with_reducible refine (node_lit HS1.out hl 1 1 rfl (Nat.le_refl 1) HL.out 1 n noSet 0 0 0 none 0 0).mono ?_)
  rintro e w4 ⟨rfl, hS4, hC4⟩
  have Z4 := HZ1.out.step hC4
  have hz := Z4.res
  have iz := Z4.inh
  have HZ := Lib.hid Z4
  have HS := Lib.hid hS4
  clear Z4 hS4 hC4 HZ1 HS1 c0' c1 c5 ig ff
  go_wp2_with fail
  exact bodyPost_ret (results_nodeR 6 rfl rfl (Blk.get _ hz (by simp [ndA_size])) (ndA_size _ _ _ _ _ _ _)) rfl (part_ret HZ.out HS.out (ok := fun b => (b ≠ g ∧ w.heap.size ≤ b) ∧ b ≠ w.heap.size) (NkK.leaf HV.out) (fun b h => h) rfl)
set_option maxRecDepth 3000 in
theorem rpart_any (h : StAt w g s at_ r false) (hl : s.length ≤ 1000) (first begun : Bool) {c : UInt8} {l : List UInt8} (e : r.left = c :: l) (row : RdS → Option (Fr × RdS))
    (hrow : ∀ (t : RdS) (at2 : Nat) (w : World), t.left.length < r.left.length → StAt w g s at2 t false → Calls Tryd.prog 17 #[.pointer (some ⟨g, 0, none⟩)] w (RowR w g s (row t))) :
    Calls Tryd.prog 23 #[.pointer (some ⟨g, 0, none⟩), .bool first, .bool begun] w (PartR w g s (partR row first begun r)) := by
  by_cases k92 : c.toNat = 92
  · exact rpart_92 h hl first begun e k92 row hrow
  by_cases k91 : c.toNat = 91
  · exact rpart_91 h hl first begun e k92 k91 row hrow
  by_cases k46 : c.toNat = 46
  · exact rpart_46 h hl first begun e k92 k91 k46 row hrow
  by_cases k94 : c.toNat = 94
  · exact rpart_94 h hl first begun e k92 k91 k46 k94 row hrow
  by_cases k36 : c.toNat = 36
  · exact rpart_36 h hl first begun e k92 k91 k46 k94 k36 row hrow
  by_cases k42 : c.toNat = 42
  · exact rpart_42 h hl first begun e k92 k91 k46 k94 k36 k42 row hrow
  exact rpart_else h hl first begun e k92 k91 k46 k94 k36 k42 row hrow
end
end Go.Proofs.YtmobcljinfoacaaDoor
