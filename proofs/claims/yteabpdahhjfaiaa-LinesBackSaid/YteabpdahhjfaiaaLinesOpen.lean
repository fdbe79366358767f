/-
  Lists of lines that come in as arguments, opened.
-/
import Derived.Test.YteabpdahhjfaiaaLinesLaws
import Derived.Test.YteabpdahhjfaiaaOpen
namespace Go.Proofs.Yteabpdahhjfaiaa
open Go.ChangeShapes Go.WideShapes Go.ChangeAt Go.RowKit Go.Joins

section
variable {H : Type} {enc : TypeId × Value → H} {W : World} {base b0 : Nat} {spare : Nat → Bool} {held : Bool}
theorem open_lines {v : Value} {d : DataW H} {p : List MemPlace} (hv : Value.okWide Try.prog W .any b0 22 v) (h : DataW.Trod enc Try.prog W base spare held 22 v d p) :
    ∃ (A : Option Addr) (cap : Nat) (l : List (List UInt8)), v = .slice A l.length cap ∧ Came W A cap l := by
  obtain ⟨a, len, cap, rfl⟩ := okWide_slice Try.underlying22 hv
  obtain ⟨fuel, hf⟩ := h
  obtain ⟨A, cap', ss, hcs, h1, h2, h3, h4⟩ := open_strs Try.underlying22 Try.underlying9 (by kernel_rfl) hf
  simp [Value.cells] at hcs
  obtain ⟨rfl, rfl, rfl⟩ := hcs
  have hnil : a = none → ss.length = 0 ∧ cap = 0 := by
    intro ha
    rcases DataW.trod_slice Try.underlying22 hf with ⟨e, _⟩ | ⟨ad, _, _, _, _, _, _, e, _⟩
    · simp [Value.cells] at e
      exact ⟨by simp [e.2.1], e.2.2⟩
    · simp [Value.cells] at e
      rw [ha] at e
      cases e.1
  unfold maxLen at h2
  have hlv : lv (ss.map fun s => s.data.toList) = ss.map Value.string := by
    unfold lv
    rw [List.map_map, List.map_map]
    exact List.map_congr_left fun s _ => by simp [tx_of]
  refine ⟨a, cap, ss.map fun s => s.data.toList, by simp, ?_, by simpa using hnil, by simp; omega, ?_⟩
  · rw [hlv]; simpa using h4
  · intro s hs
    obtain ⟨b, hb, rfl⟩ := List.mem_map.1 hs
    exact h3 b hb
end
end Go.Proofs.Yteabpdahhjfaiaa
