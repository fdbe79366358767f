/-
  Matches: a letter so many times, in plain words.
-/
import Derived.Test.YtnjagecmhdagkaaDoorPqMatchTimesHolds44
set_option linter.unusedSimpArgs false
set_option linter.unusedVariables false
namespace Go.Proofs.YtnjagecmhdagkaaDoor
open Go.RowKit

set_option maxRecDepth 3000 in
theorem part_120 (tail : List UInt8) : partF true false (ps0 (120 :: tail)) = some ((byteN 120, .nil), ⟨tail, 1, 0, false, []⟩) := by
  unfold ps0
  rw [part_plain (by simp [PlainB])]
  rfl
def tmF (m : Nat) (k : Int) : Fr := .cons (timesN m k) (Fr.one (byteN 120) .nil) .nil
set_option maxRecDepth 3000 in
theorem pat_tm {tail : List UInt8} {m : Nat} {n : Int} (h : boundsV tail = some (m, n, [])) :
    patV (120 :: 92 :: 123 :: tail) = some (tmF m n, ⟨[], 2, 0, false, []⟩) := by
  unfold patV
  rw [rowF_eq, show stopV (ps0 (120 :: 92 :: 123 :: tail)).left = false by simp [ps0, stopV, ahead_cons], part_120]
  simp only [Bool.false_eq_true, if_false, Option.bind_some]
  have e : timesF (byteN 120, Fr.nil) ⟨92 :: 123 :: tail, 1, 0, false, []⟩ = some ((timesN m n, Fr.one (byteN 120) .nil), ⟨[], 2, 0, false, []⟩) := by
    rw [timesF_eq]
    simp only [ahead_cons, ahead_nil]
    simp [h, node1]
    rw [timesF_eq]
    simp [ahead_empty]
  rw [show more1 (byteN 120, Fr.nil) (⟨92 :: 123 :: tail, 1, 0, false, []⟩ : PS) = timesF (byteN 120, Fr.nil) ⟨92 :: 123 :: tail, 1, 0, false, []⟩ from rfl, e]
  simp only [Option.bind_some]
  rw [row_end]
  rfl
/-- The two patterns of the law. -/
def tmP (m : Nat) : Option Nat → List UInt8
  | none => 120 :: 92 :: 123 :: (digitsV m ++ [44, 92, 125])
  | some b => 120 :: 92 :: 123 :: (digitsV m ++ 44 :: (digitsV b ++ [92, 125]))
def tmK : Option Nat → Int
  | none => -1
  | some b => b
set_option maxRecDepth 3000 in
theorem pat_tmP (m : Nat) (o : Option Nat) (hm : m ≤ 255) (ho : ∀ b, o = some b → m ≤ b ∧ b ≤ 255) : patV (tmP m o) = some (tmF m (tmK o), ⟨[], 2, 0, false, []⟩) := by
  cases o with
  | none => exact pat_tm (by rw [bounds_from m (by omega), if_pos hm]; rfl)
  | some b =>
    obtain ⟨h1, h2⟩ := ho b rfl
    exact pat_tm (by rw [bounds_both m b (by omega) (by omega), if_pos ⟨hm, h2, h1⟩]; rfl)
set_option maxRecDepth 3000 in
theorem fit_xs {n i : Nat} (h : i < n) : fitB ⟨120, false, false⟩ (List.replicate n 120) i := by
  refine ⟨by simpa using h, .inr ?_⟩
  unfold ch
  rw [List.getD_eq_getElem?_getD, List.getElem?_replicate, if_pos h]
  rfl
set_option maxRecDepth 3000 in
theorem ends_tm {n m : Nat} {k : Int} {a j : Nat} (ha : a ≤ n) : endsF (List.replicate n 120) (tmF m k) a j = true ↔ a ≤ j ∧ j ≤ n ∧ m ≤ j - a ∧ (0 ≤ k → ((j - a : Nat) : Int) ≤ k) := by
  have hl : (List.replicate n (120 : UInt8)).length = n := by simp
  unfold tmF
  rw [endsF_cons (by omega)]
  have hx : byteN 120 = leafA ⟨120, false, false⟩ := rfl
  rw [hx]
  constructor
  · rintro ⟨i, hi, h1, h2⟩
    have e : j = i := by simpa [endsF, endsR, one1] using h2
    subst e
    obtain ⟨q1, q2, _, q3, q4⟩ := (node_times (by omega)).1 h1
    exact ⟨q1, by omega, q3, q4⟩
  · rintro ⟨q1, q2, q3, q4⟩
    exact ⟨j, by omega, (node_times (by omega)).2 ⟨q1, by omega, fun i h1 h2 => fit_xs (by omega), q3, q4⟩, by simp [endsF, endsR, one1]⟩
/-- As far as there are. -/
def mostT (n : Nat) : Option Nat → Nat
  | none => n
  | some b => min n b
set_option maxRecDepth 3000 in
theorem tm_yes {n m : Nat} {o : Option Nat} (hm : m ≤ 255) (ho : ∀ b, o = some b → m ≤ b ∧ b ≤ 255) (h : m ≤ n) : ∃ g, atR (tmP m o) (List.replicate n 120) 0 = (g, true) ∧ g.getD 0 0 = 0 ∧ g.getD 1 0 = (mostT n o : Int) := by
  have hl : (List.replicate n (120 : UInt8)).length = n := by simp
  have hmost : mostT n o ≤ n ∧ m ≤ mostT n o ∧ (0 ≤ tmK o → ((mostT n o : Nat) : Int) ≤ tmK o) ∧ ∀ i, i ≤ n → (0 ≤ tmK o → (i : Int) ≤ tmK o) → i ≤ mostT n o := by
    cases o with
    | none => exact ⟨Nat.le_refl _, h, fun h => absurd h (by decide), fun i hi _ => hi⟩
    | some b =>
      obtain ⟨h1, h2⟩ := ho b rfl
      show min n b ≤ n ∧ m ≤ min n b ∧ (0 ≤ (b : Int) → ((min n b : Nat) : Int) ≤ (b : Int)) ∧ ∀ i, i ≤ n → (0 ≤ (b : Int) → (i : Int) ≤ (b : Int)) → i ≤ min n b
      exact ⟨by omega, by omega, fun _ => by omega, fun i hi h3 => by have := h3 (by omega); omega⟩
  obtain ⟨h1, h2, h3, h4⟩ := hmost
  have ha := at_some (pat_tmP m o hm ho) rfl (s := List.replicate n 120) (k := 0) (a := 0) (e := mostT n o) (by omega) (by omega) (fun b hb1 hb2 => by omega)
    ((ends_tm (by omega)).2 ⟨by omega, h1, by omega, h3⟩) (by omega) (fun i hi hf => by
      obtain ⟨_, q2, _, q4⟩ := (ends_tm (by omega)).1 hf
      exact h4 i q2 q4)
  obtain ⟨q1, q2, _⟩ := spSet_0 (g := giveV (List.replicate n 120) (tmF m (tmK o)) 0 (mostT n o) spNone) (by rw [give_len]; rfl) (0 : Nat) (mostT n o)
  exact ⟨_, ha, q1, q2⟩
set_option maxRecDepth 3000 in
theorem tm_no {n m : Nat} {o : Option Nat} (hm : m ≤ 255) (ho : ∀ b, o = some b → m ≤ b ∧ b ≤ 255) (h : n < m) : atR (tmP m o) (List.replicate n 120) 0 = (spZero, false) := by
  have hl : (List.replicate n (120 : UInt8)).length = n := by simp
  refine at_none (pat_tmP m o hm ho) rfl (k := 0) fun b _ hb i hi => ?_
  rw [Bool.eq_false_iff]
  intro hf
  obtain ⟨q1, q2, q3, _⟩ := (ends_tm (by omega)).1 hf
  omega
set_option maxRecDepth 3000 in
theorem tmP_len (m : Nat) (o : Option Nat) (hm : m ≤ 255) (ho : ∀ b, o = some b → m ≤ b ∧ b ≤ 255) : (tmP m o).length ≤ 12 := by
  have h1 := digitsV_len m (by omega)
  cases o with
  | none => simp [tmP]; omega
  | some b =>
    have h2 := digitsV_len b (by have := ho b rfl; omega)
    simp [tmP]; omega
end Go.Proofs.YtnjagecmhdagkaaDoor
