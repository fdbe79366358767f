/-
  Matches: rows of letters and dots: what fits, place by place; what their matches are.
-/
import Derived.Test.YtnjagecmhdagkaaGreatDoorPqMatchWithinHolds42
import Derived.Test.YtnjagecmhdagkaaGreatDoorPk40
namespace Go.Proofs.YtnjagecmhdagkaaGreatDoor
open Go.RowKit

/-! ### what a pattern without references matches -/
set_option maxRecDepth 3000 in
theorem spSet_0 {g : Spn} (hg : g.length = 20) (a b : Int) : (spSet g 0 a b).getD 0 0 = a ∧ (spSet g 0 a b).getD 1 0 = b ∧ ∀ i, 2 ≤ i → (spSet g 0 a b).getD i 0 = g.getD i 0 := by
  unfold spSet
  refine ⟨?_, ?_, fun i hi => ?_⟩
  · rw [List.getD_eq_getElem?_getD, List.getElem?_set_ne (by omega), List.getElem?_set_self (by omega)]; rfl
  · rw [List.getD_eq_getElem?_getD, List.getElem?_set_self (by rw [List.length_set]; omega)]; rfl
  · rw [List.getD_eq_getElem?_getD, List.getElem?_set_ne (by omega), List.getElem?_set_ne (by omega), ← List.getD_eq_getElem?_getD]
/-! ### rows -/
/-! ### letters alone -/
end Go.Proofs.YtnjagecmhdagkaaGreatDoor
