/-
  Lists of lines that come in as arguments, or in the cells of an argument, opened.
-/
import Derived.Test.YtlhdbaaokgdabaaTx
import Derived.Test.YtlhdbaaokgdabaaOpen
namespace Go.Proofs.Ytlhdbaaokgdabaa
open Go.ChangeShapes Go.WideShapes Go.ChangeAt Go.RowKit Go.Joins

/-- A list of lines that came in. -/
structure Came (w : World) (A : Option Addr) (cap : Nat) (d : List (List UInt8)) : Prop where
  rd : Rd w 1 A d.length (lv d)
  nil : A = none → d.length = 0 ∧ cap = 0
  len : d.length ≤ 9223372036854775807
  each : ∀ s ∈ d, s.length ≤ 9223372036854775807
  le : d.length ≤ cap
  cap63 : cap ≤ 9223372036854775807
theorem Came.grows {w w' : World} {A : Option Addr} {cap : Nat} {d : List (List UInt8)} (h : Came w A cap d) (hg : Grows w w') : Came w' A cap d := ⟨h.rd.grows hg, h.nil, h.len, h.each, h.le, h.cap63⟩

section
variable {H : Type} {enc : TypeId × Value → H} {W : World} {base b0 : Nat} {spare : Nat → Bool} {held : Bool}
theorem open_lines_cell {c : Value} {fuel : Nat} {x : DataW H × List MemPlace} (hf : DataW.trod enc Try.prog W base spare held fuel 23 [c] = some x) :
    ∃ (A : Option Addr) (cap : Nat) (l : List (List UInt8)), c = .slice A l.length cap ∧ Came W A cap l := by
  obtain ⟨A, cap, ss, hcs, h1, h2, h3, h4⟩ := open_strs Try.underlying23 Try.underlying9 (by kernel_rfl) hf
  obtain rfl : c = .slice A ss.length cap := by simpa using hcs
  have hnil : A = none → ss.length = 0 ∧ cap = 0 := by
    intro ha
    rcases DataW.trod_slice Try.underlying23 hf with ⟨e, _⟩ | ⟨ad, _, _, _, _, _, _, e, _⟩
    · simp at e
      exact ⟨by simp [e.2.1], e.2.2⟩
    · simp at e
      rw [ha] at e
      cases e.1
  unfold maxLen at h2
  have hlv : lv (ss.map fun s => s.data.toList) = ss.map Value.string := by
    unfold lv
    rw [List.map_map, List.map_map]
    exact List.map_congr_left fun s _ => by simp [tx_of]
  refine ⟨A, cap, ss.map fun s => s.data.toList, by simp, ?_, by simpa using hnil, by simp; omega, ?_, by simpa using h1, h2⟩
  · rw [hlv]; simpa using h4
  · intro s hs
    obtain ⟨b, hb, rfl⟩ := List.mem_map.1 hs
    exact h3 b hb
theorem open_lines {v : Value} {d : DataW H} {p : List MemPlace} (hv : Value.okWide Try.prog W .any b0 23 v) (h : DataW.Trod enc Try.prog W base spare held 23 v d p) :
    ∃ (A : Option Addr) (cap : Nat) (l : List (List UInt8)), v = .slice A l.length cap ∧ Came W A cap l := by
  obtain ⟨a, len, cap, rfl⟩ := okWide_slice Try.underlying23 hv
  obtain ⟨fuel, hf⟩ := h
  exact open_lines_cell hf
end
end Go.Proofs.Ytlhdbaaokgdabaa
