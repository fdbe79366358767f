/-
  Patterns: one byte and an interval behind it, in plain words.
-/
import Derived.Test.YtnjagecmhdagkaaDoorPqMatchRowHolds40
import Derived.Test.YtnjagecmhdagkaaDoorPqMatchRowHolds41
set_option linter.unusedSimpArgs false
set_option linter.unusedVariables false
namespace Go.Proofs.YtnjagecmhdagkaaDoor
open Go.RowKit

set_option maxRecDepth 3000 in
theorem digitsV_small (n : Nat) : (n < 10 → digitsV n = [dig8 n]) ∧ (10 ≤ n → n < 100 → digitsV n = [dig8 (n / 10), dig8 n]) ∧ (100 ≤ n → n < 1000 → digitsV n = [dig8 (n / 10 / 10), dig8 (n / 10), dig8 n]) := by
  refine ⟨fun h => ?_, fun h k => ?_, fun h k => ?_⟩
  · unfold digitsV
    rw [show n / 10 = 0 by omega, digL_zero]
  · unfold digitsV
    rw [digL_pos _ _ (by omega), show n / 10 / 10 = 0 by omega, digL_zero]
  · unfold digitsV
    rw [digL_pos _ _ (by omega), digL_pos _ _ (by omega), show n / 10 / 10 / 10 = 0 by omega, digL_zero]
set_option maxRecDepth 3000 in
theorem isDig8 (n : Nat) : isDig (dig8 n) = true := by
  unfold isDig
  rw [dig8_nat]
  simp
  omega
set_option maxRecDepth 3000 in
theorem digitsV_dig (n : Nat) (hn : n < 1000) : ∀ c ∈ digitsV n, isDig c = true := by
  obtain ⟨h1, h2, h3⟩ := digitsV_small n
  intro c hc
  rcases Nat.lt_or_ge n 10 with h | h
  · rw [h1 h] at hc; simp at hc; rw [hc, isDig8]
  · rcases Nat.lt_or_ge n 100 with k | k
    · rw [h2 h k] at hc; simp at hc; rcases hc with rfl | rfl <;> exact isDig8 _
    · rw [h3 k hn] at hc; simp at hc; rcases hc with rfl | rfl | rfl <;> exact isDig8 _
set_option maxRecDepth 3000 in
theorem digitsV_ne (n : Nat) (hn : n < 1000) : (digitsV n).isEmpty = false := by
  obtain ⟨h1, h2, h3⟩ := digitsV_small n
  rcases Nat.lt_or_ge n 10 with h | h
  · rw [h1 h]; rfl
  · rcases Nat.lt_or_ge n 100 with k | k
    · rw [h2 h k]; rfl
    · rw [h3 k hn]; rfl
set_option maxRecDepth 3000 in
theorem digitsV_len (n : Nat) (hn : n < 1000) : (digitsV n).length ≤ 3 := by
  obtain ⟨h1, h2, h3⟩ := digitsV_small n
  rcases Nat.lt_or_ge n 10 with h | h
  · rw [h1 h]; simp
  · rcases Nat.lt_or_ge n 100 with k | k
    · rw [h2 h k]; simp
    · rw [h3 k hn]; simp
set_option maxRecDepth 3000 in
theorem numV_digits (n : Nat) (hn : n < 1000) : numV (digitsV n) = min n 256 := by
  obtain ⟨h1, h2, h3⟩ := digitsV_small n
  rcases Nat.lt_or_ge n 10 with h | h
  · rw [h1 h]; simp only [numV, List.foldl, dig8_nat]; omega
  · rcases Nat.lt_or_ge n 100 with k | k
    · rw [h2 h k]; simp only [numV, List.foldl, dig8_nat]; omega
    · rw [h3 k hn]; simp only [numV, List.foldl, dig8_nat]; omega
set_option maxRecDepth 3000 in
theorem takeWhile_all {p : UInt8 → Bool} : ∀ (l : List UInt8) (c : UInt8) (r : List UInt8), (∀ x ∈ l, p x = true) → p c = false → (l ++ c :: r).takeWhile p = l ∧ (l ++ c :: r).dropWhile p = c :: r
  | [], c, r, _, hc => by simp [hc]
  | x :: l, c, r, h, hc => by
    have hx := h x (by simp)
    have := takeWhile_all l c r (fun y hy => h y (by simp [hy])) hc
    simp [hx, this.1, this.2]
set_option maxRecDepth 3000 in
theorem number_digits (n : Nat) (hn : n < 1000) (c : UInt8) (r : List UInt8) (hc : isDig c = false) : numberV (digitsV n ++ c :: r) = (min n 256, true, c :: r) := by
  obtain ⟨h1, h2⟩ := takeWhile_all (p := isDig) (digitsV n) c r (digitsV_dig n hn) hc
  unfold numberV
  rw [h1, h2, numV_digits n hn, digitsV_ne n hn]
  rfl
set_option maxRecDepth 3000 in
theorem bounds_alone (a : Nat) (ha : a < 1000) : boundsV (digitsV a ++ [92, 125]) = if a ≤ 255 then some (a, (a : Int), []) else none := by
  have h1 : numberV (digitsV a ++ [92, 125]) = (min a 256, true, [92, 125]) := number_digits a ha 92 [125] rfl
  unfold boundsV
  simp only [h1]
  have h2 : mostV (min a 256) [92, 125] = (((min a 256 : Nat) : Int), [92, 125]) := by
    unfold mostV
    rw [show ahead [44] [92, 125] = false from rfl]
    rfl
  simp only [h2]
  have h3 : ahead [92, 125] [92, 125] = true := rfl
  by_cases h : a ≤ 255
  · rw [if_pos h, if_pos ⟨by trivial, h3, by omega, by omega, .inr (by omega)⟩]
    simp [show min a 256 = a by omega]
  · rw [if_neg h, if_neg (fun k => by have := k.2.2.1; omega)]
set_option maxRecDepth 3000 in
theorem bounds_from (a : Nat) (ha : a < 1000) : boundsV (digitsV a ++ [44, 92, 125]) = if a ≤ 255 then some (a, -1, []) else none := by
  have h1 : numberV (digitsV a ++ [44, 92, 125]) = (min a 256, true, [44, 92, 125]) := number_digits a ha 44 [92, 125] rfl
  unfold boundsV
  simp only [h1]
  have h2 : mostV (min a 256) [44, 92, 125] = (-1, [92, 125]) := by
    unfold mostV
    rw [show ahead [44] [44, 92, 125] = true from rfl]
    rfl
  simp only [h2]
  have h3 : ahead [92, 125] [92, 125] = true := rfl
  by_cases h : a ≤ 255
  · rw [if_pos h, if_pos ⟨by trivial, h3, by omega, by omega, .inl (by omega)⟩]
    simp [show min a 256 = a by omega]
  · rw [if_neg h, if_neg (fun k => by have := k.2.2.1; omega)]
set_option maxRecDepth 3000 in
theorem bounds_both (a b : Nat) (ha : a < 1000) (hb : b < 1000) : boundsV (digitsV a ++ 44 :: (digitsV b ++ [92, 125])) = if a ≤ 255 ∧ b ≤ 255 ∧ a ≤ b then some (a, (b : Int), []) else none := by
  have h1 : numberV (digitsV a ++ 44 :: (digitsV b ++ [92, 125])) = (min a 256, true, 44 :: (digitsV b ++ [92, 125])) := number_digits a ha 44 _ rfl
  have h1b : numberV (digitsV b ++ [92, 125]) = (min b 256, true, [92, 125]) := number_digits b hb 92 [125] rfl
  unfold boundsV
  simp only [h1]
  have h2 : mostV (min a 256) (44 :: (digitsV b ++ [92, 125])) = (((min b 256 : Nat) : Int), [92, 125]) := by
    unfold mostV
    rw [ahead_cons, ahead_nil]
    simp only [List.drop_succ_cons, List.drop_zero, h1b]
    rfl
  simp only [h2]
  have h3 : ahead [92, 125] [92, 125] = true := rfl
  by_cases h : a ≤ 255 ∧ b ≤ 255 ∧ a ≤ b
  · rw [if_pos h, if_pos ⟨by trivial, h3, by omega, by omega, .inr (by omega)⟩]
    simp [show min a 256 = a by omega, show min b 256 = b by omega]
  · rw [if_neg h, if_neg (fun k => by have := k.2.2.1; have := k.2.2.2.1; have := k.2.2.2.2; omega)]
set_option maxRecDepth 3000 in
theorem part_97 (tail : List UInt8) : partF true false (ps0 (97 :: tail)) = some ((byteN 97, .nil), ⟨tail, 1, 0, false, []⟩) := by
  unfold ps0
  rw [part_plain (by simp [PlainB])]
  rfl
set_option maxRecDepth 3000 in
theorem pat_times_none {tail : List UInt8} (h : boundsV tail = none) : patV (97 :: 92 :: 123 :: tail) = none := by
  unfold patV
  rw [rowF_eq, show stopV (ps0 (97 :: 92 :: 123 :: tail)).left = false by simp [ps0, stopV, ahead_cons], part_97]
  simp only [Bool.false_eq_true, if_false, Option.bind_some]
  rw [show more1 (byteN 97, Fr.nil) (⟨92 :: 123 :: tail, 1, 0, false, []⟩ : PS) = timesF (byteN 97, Fr.nil) ⟨92 :: 123 :: tail, 1, 0, false, []⟩ from rfl, timesF_eq]
  simp only [ahead_cons, ahead_nil]
  simp [h]
set_option maxRecDepth 3000 in
theorem pat_times_some {tail : List UInt8} {m : Nat} {n : Int} (h : boundsV tail = some (m, n, [])) :
    patV (97 :: 92 :: 123 :: tail) = some (.cons (timesN m n) (Fr.one (byteN 97) .nil) .nil, ⟨[], 2, 0, false, []⟩) := by
  unfold patV
  rw [rowF_eq, show stopV (ps0 (97 :: 92 :: 123 :: tail)).left = false by simp [ps0, stopV, ahead_cons], part_97]
  simp only [Bool.false_eq_true, if_false, Option.bind_some]
  have e : timesF (byteN 97, Fr.nil) ⟨92 :: 123 :: tail, 1, 0, false, []⟩ = some ((timesN m n, Fr.one (byteN 97) .nil), ⟨[], 2, 0, false, []⟩) := by
    rw [timesF_eq]
    simp only [ahead_cons, ahead_nil]
    simp [h, node1]
    rw [timesF_eq]
    simp [ahead_empty]
  rw [show more1 (byteN 97, Fr.nil) (⟨92 :: 123 :: tail, 1, 0, false, []⟩ : PS) = timesF (byteN 97, Fr.nil) ⟨92 :: 123 :: tail, 1, 0, false, []⟩ from rfl, e]
  simp only [Option.bind_some]
  rw [row_end]
  rfl
end Go.Proofs.YtnjagecmhdagkaaDoor
