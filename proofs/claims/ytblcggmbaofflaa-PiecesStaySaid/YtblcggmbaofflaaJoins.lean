/-
  lines.Join, walked: for every seat whose code calls it.
-/
import Derived.Test.YtblcggmbaofflaaTx
import Derived.Test.YtblcggmbaofflaaBuilder
namespace Go.Proofs.Ytblcggmbaofflaa
open Go.RowKit

theorem join_take (d : List (List UInt8)) (k : Nat) (hk : k < d.length) : joinL (d.take (k + 1)) = joinL (d.take k) ++ (d[k] ++ [10]) := by
  rw [List.take_add_one, List.getElem?_eq_getElem hk, joinL_append]; simp [joinL]
theorem join_take_le (d : List (List UInt8)) (k : Nat) : (joinL (d.take k)).length ≤ (joinL d).length := by
  conv => rhs; rw [← List.take_append_drop k d, joinL_append]
  simp

set_option maxHeartbeats 1000000 in
theorem join_any (A : Option Addr) (cap : Nat) (d : List (List UInt8)) (w : World) (hA : Rd w 1 A d.length (lv d)) (hj : (joinL d).length ≤ 140737488355000) (hd : d.length ≤ 9223372036854775807) :
    Calls Try.prog 35 #[.slice A d.length cap] w fun e w' => e = .returned (.string (tx (joinL d))) ∧ Grows w w' := by
  go_enter Try.func35, Try.ntmps35
  go_wp2_with fail
  go_loopg [5, 8] d.length (fun q _ i wr => ∃ k : Nat, q + k = d.length ∧ i = .int .i64 k ∧ Lib.IsBuilder 73 5 w.heap.size w.heap.size (Lib.byteCells (joinL (d.take k))) wr ∧ Below w.heap.size w wr)
  case atStart =>
    refine ⟨0, by omega, rfl, .inl ⟨Nat.le_refl _, .slice none 0 0, World.alloc_heap_new _ _, World.ownsRow_nil _ _ _ _, by simp [Value.ownBlock]⟩, (Below.refl _ w).alloc (Nat.le_refl _) _⟩
  case round =>
    obtain ⟨k, hq, rfl, hI, hB⟩ := hrel
    have HQ := Lib.hid hq
    have hkl : k ≤ d.length := by omega
    clear hq
    have hsz := hB.size
    by_cases h1 : k < d.length
    · obtain ⟨b, o, rfl, hb, ec⟩ := (hA.grows (Grows.of_below hB)).line k h1
      have hjk := join_take_le d (k + 1)
      have hjt := join_take d k h1
      have hjl : (joinL (d.take k)).length + (d[k].length + 1) ≤ 140737488355000 := by
        rw [hjt] at hjk; simp at hjk; omega
      have HJ := Lib.hid hjt
      clear hjt
      go_wp2_with fail
      (with_reducible refine (writeString_any w.heap.size w.heap.size _ (tx d[k]) _ hI (by simp [Lib.byteCells_length]; omega) hsz).mono ?_)
      rintro e w1 ⟨rfl, hI1, hB1⟩
      have hI1' : Lib.IsBuilder 73 5 w.heap.size w.heap.size (Lib.byteCells (joinL (d.take k)) ++ Lib.strCells (tx d[k])) w1 := Or.inr hI1
      go_wp2_with fail
      (with_reducible refine (writeString_any w.heap.size w.heap.size _ ⟨#[10]⟩ _ hI1' (by rw [List.length_append, Lib.byteCells_length, Lib.strCells_length, tx_size]; have : (ByteArray.mk #[10]).size = 1 := rfl; omega) (by have := hB1.size; omega)).mono ?_)
      rintro e w2 ⟨rfl, hI2, hB2⟩
      go_wp2_with fail
      go_roundg (gk - 1)
      case measure => have := HQ.out; omega
      case rel =>
        refine ⟨k + 1, by have := HQ.out; omega, by go_num, .inr ?_, (hB.trans hB1).trans hB2⟩
        rw [HJ.out, Lib.byteCells_append, Lib.byteCells_append, ← List.append_assoc]
        exact hI2
    · have hk : d.take k = d := List.take_of_length_le (by omega)
      rw [hk] at hI
      go_wp2_with fail
      (with_reducible refine (Try.Builder_String_any w.heap.size w.heap.size _ _ hI hsz).mono ?_)
      rintro e w1 ⟨rfl, hB1⟩
      go_wp2_with fail
      go_ret
      exact ⟨rfl, Grows.of_below (hB.trans hB1)⟩

end Go.Proofs.Ytblcggmbaofflaa
