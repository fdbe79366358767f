/-
  Matches: rows of letters and dots, starred or not, in plain words.
-/
import Derived.Test.YtkomggeionofbaaGreatDoorPk22
import Derived.Test.YtkomggeionofbaaGreatDoorPk10
set_option linter.unusedSimpArgs false
set_option linter.unusedVariables false
namespace Go.Proofs.YtkomggeionofbaaGreatDoor
open Go.RowKit

/-- A letter, or any byte, and whether it may be there as often as one likes. -/
structure Atm where
  c : UInt8
  any : Bool
  star : Bool
/-! ### where such a row may end -/
/-- Does a byte of a text fit? -/
def fitB (x : Atm) (s : List UInt8) (k : Nat) : Prop := k < s.length ∧ (x.any = true ∨ x.c.toNat = ch s k)
def stepP (x : Atm) (s : List UInt8) (a i : Nat) : Prop := if x.star = true then a ≤ i ∧ ∀ k, a ≤ k → k < i → fitB x s k else i = a + 1 ∧ fitB x s a
/-- Such a row fits from one place up to another one. -/
def FitP (s : List UInt8) : List Atm → Nat → Nat → Prop
  | [], a, b => b = a
  | x :: l, a, b => ∃ i, stepP x s a i ∧ FitP s l i b
set_option maxRecDepth 3000 in
theorem FitP.append {s : List UInt8} : ∀ {l m : List Atm} {a b : Nat}, FitP s (l ++ m) a b ↔ ∃ i, FitP s l a i ∧ FitP s m i b := by
  intro l
  induction l with
  | nil => intro m a b; exact ⟨fun h => ⟨a, rfl, h⟩, fun ⟨i, h1, h2⟩ => by rw [show i = a from h1] at h2; exact h2⟩
  | cons x l ih =>
    intro m a b
    simp only [List.cons_append, FitP]
    constructor
    · rintro ⟨i, h1, h2⟩
      obtain ⟨j, h3, h4⟩ := ih.1 h2
      exact ⟨j, ⟨i, h1, h3⟩, h4⟩
    · rintro ⟨j, ⟨i, h1, h3⟩, h4⟩
      exact ⟨i, h1, ih.2 ⟨j, h3, h4⟩⟩
set_option maxRecDepth 3000 in
theorem stepP.le {x : Atm} {s : List UInt8} {a i : Nat} (h : stepP x s a i) : a ≤ i ∧ (a ≤ s.length → i ≤ s.length) := by
  unfold stepP at h
  split at h
  · refine ⟨h.1, fun ha => ?_⟩
    rcases Nat.lt_or_ge a i with h2 | h2
    · have := (h.2 (i - 1) (by omega) (by omega)).1; omega
    · omega
  · have := h.2.1; exact ⟨by omega, fun _ => by omega⟩
set_option maxRecDepth 3000 in
theorem FitP.le {s : List UInt8} : ∀ {l : List Atm} {a b : Nat}, FitP s l a b → a ≤ b ∧ (a ≤ s.length → b ≤ s.length) := by
  intro l
  induction l with
  | nil => intro a b h; rw [show b = a from h]; exact ⟨Nat.le_refl _, id⟩
  | cons x l ih =>
    rintro a b ⟨i, h1, h2⟩
    have := h1.le
    have := ih h2
    exact ⟨by omega, fun h => by omega⟩
/-! ### where a match is found -/
end Go.Proofs.YtkomggeionofbaaGreatDoor
