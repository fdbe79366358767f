/-
  MarksStay: the plain law. A mark follows its line.
-/
import Derived.Test.YthmfhcnminkhaaaFold
import Derived.Test.YthmfhcnminkhaaaMarksAllLaw
namespace Go.Proofs.Ythmfhcnminkhaaa
open Go.RowKit

/-- The line x stands at place p (from 1) among d and at no other; p = 0: at none. -/
def AtPlace (x : List UInt8) (d : List (List UInt8)) (p : Int) : Prop :=
  (p = 0 ∧ ∀ i : Nat, d[i]? ≠ some x) ∨ ∃ j : Nat, p = j + 1 ∧ d[j]? = some x ∧ ∀ i : Nat, d[i]? = some x → i = j
theorem AtPlace.le {x : List UInt8} {d : List (List UInt8)} {p : Int} (h : AtPlace x d p) : 0 ≤ p ∧ p ≤ d.length := by
  rcases h with ⟨rfl, _⟩ | ⟨j, rfl, hj, _⟩
  · omega
  · have := (List.getElem?_eq_some_iff.1 hj).1; omega
theorem AtPlace.here {x : List UInt8} {d : List (List UInt8)} {p : Int} (h : AtPlace x d p) (j : Nat) : d[j]? = some x ↔ p = j + 1 := by
  rcases h with ⟨rfl, h⟩ | ⟨i, rfl, hi, hu⟩
  · exact ⟨fun e => absurd e (h j), fun e => by omega⟩
  · constructor
    · intro e; rw [hu j e]
    · intro e
      obtain rfl : i = j := by omega
      exact hi
theorem get_done (d ins : List (List UInt8)) (a e i : Nat) (h : a + e ≤ d.length) :
    (d.take a ++ (ins ++ d.drop (a + e)))[i]? = if i < a then d[i]? else if i < a + ins.length then ins[i - a]? else d[i - ins.length + e]? := by
  have hl : (d.take a).length = a := by simp; omega
  by_cases h1 : i < a
  · rw [List.getElem?_append_left (by omega), if_pos h1, List.getElem?_take, if_pos h1]
  · rw [List.getElem?_append_right (by omega), if_neg h1, hl]
    by_cases h2 : i < a + ins.length
    · rw [List.getElem?_append_left (by omega), if_pos h2]
    · rw [List.getElem?_append_right (by omega), if_neg h2, List.getElem?_drop]
      congr 1
      omega
/-- A place moves with its line. -/
theorem AtPlace.step {x : List UInt8} {d ins : List (List UInt8)} {p : Int} {a e : Nat} (h : AtPlace x d p) (ha : a + e ≤ d.length) (hi : ∀ t ∈ ins, t ≠ x) (hd : d.length ≤ 1000000) (hil : ins.length ≤ 1000000) :
    AtPlace x (d.take a ++ (ins ++ d.drop (a + e))) (lineV p a e ins.length).1 := by
  have hn : ∀ i : Nat, ins[i]? ≠ some x := fun i e => hi x (List.mem_of_getElem? e) rfl
  rcases h with ⟨rfl, h⟩ | ⟨j, rfl, hj, hu⟩
  · have : (lineV 0 a e ins.length).1 = 0 := by simp [lineV]
    rw [this]
    refine Or.inl ⟨rfl, fun i => ?_⟩
    rw [get_done d ins a e i ha]
    split
    · exact h _
    · split
      · exact hn _
      · exact h _
  · have hjl := (List.getElem?_eq_some_iff.1 hj).1
    have h0 : ¬ ((j : Int) + 1 < 1 ∨ (a : Int) < 0 ∨ (e : Int) < 0) := by omega
    unfold lineV
    rw [if_neg h0]
    by_cases h1 : j < a
    · rw [if_pos (by omega)]
      refine Or.inr ⟨j, rfl, ?_, fun i hx => ?_⟩
      · rw [get_done d ins a e j ha, if_pos h1]; exact hj
      · rw [get_done d ins a e i ha] at hx
        split at hx
        · exact hu _ hx
        · split at hx
          · exact absurd hx (hn _)
          · have := hu _ hx; omega
    · rw [if_neg (by omega)]
      by_cases h2 : j < a + e
      · rw [if_pos (by omega)]
        refine Or.inl ⟨rfl, fun i hx => ?_⟩
        rw [get_done d ins a e i ha] at hx
        split at hx
        · have := hu _ hx; omega
        · split at hx
          · exact absurd hx (hn _)
          · have := hu _ hx; omega
      · rw [if_neg (by omega)]
        refine Or.inr ⟨j - e + ins.length, ?_, ?_, fun i hx => ?_⟩
        · unfold wrap64; dsimp only; omega
        · rw [get_done d ins a e _ ha, if_neg (by omega), if_neg (by omega), ← hj]
          congr 1
          omega
        · rw [get_done d ins a e i ha] at hx
          split at hx
          · have := hu _ hx; omega
          · split at hx
            · exact absurd hx (hn _)
            · have := hu _ hx; omega
end Go.Proofs.Ythmfhcnminkhaaa
