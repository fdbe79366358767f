/-
  Classes: what a part of a bracket expression is, in plain words.
-/
import Derived.Test.YtmobcljinfoacaaDoorPk01
import Derived.Test.YtmobcljinfoacaaDoorPk07
import Derived.Lib.IndexMore
namespace Go.Proofs.YtmobcljinfoacaaDoor
open Go.RowKit

/-- ':', '.' or '=' behind a '['; 0: none of them. -/
def kindN (t : List UInt8) : Nat := if 1 < t.length ∧ bt t 0 = 91 ∧ (bt t 1 = 58 ∨ bt t 1 = 46 ∨ bt t 1 = 61) then bt t 1 else 0
/-- What stands ahead of the first ':]', and behind it. -/
def cutV : List UInt8 → Option (List UInt8 × List UInt8)
  | [] => none
  | a :: s => if a = 58 ∧ s.head? = some 93 then some ([], s.tail) else (cutV s).map fun x => (a :: x.1, x.2)
/-- The part at the beginning of a text: what it tells, and what is behind it. -/
def partV (t : List UInt8) : Option ((Int → Bool) × List UInt8) :=
  if t = [] then none
  else if kindN t = 58 then (cutV (t.drop 2)).bind fun x => (clsOf (tx x.1)).map fun y => (y.2, x.2)
  else if kindN t ≠ 0 then none
  else if 2 < t.length ∧ bt t 1 = 45 ∧ bt t 2 ≠ 93 then
    if bt t 0 ≤ bt t 2 ∧ kindN (t.drop 2) = 0 then some (spanP (bt t 0) (bt t 2), t.drop 3) else none
  else some (spanP (bt t 0) (bt t 0), t.drop 1)
set_option maxRecDepth 3000 in
theorem cutV_len {s : List UInt8} {x : List UInt8 × List UInt8} (h : cutV s = some x) : x.1.length + x.2.length + 2 = s.length := by
  induction s generalizing x with
  | nil => simp [cutV] at h
  | cons a s ih =>
    unfold cutV at h
    split at h
    · rename_i hc
      injection h with h
      subst h
      cases s with
      | nil => simp at hc
      | cons b s => simp
    · rw [Option.map_eq_some_iff] at h
      obtain ⟨y, hy, rfl⟩ := h
      have := ih hy
      simp; omega
set_option maxRecDepth 3000 in
theorem cutV_split {s : List UInt8} {x : List UInt8 × List UInt8} (h : cutV s = some x) : s = x.1 ++ 58 :: 93 :: x.2 := by
  induction s generalizing x with
  | nil => simp [cutV] at h
  | cons a s ih =>
    unfold cutV at h
    split at h
    · rename_i hc
      injection h with h
      subst h
      cases s with
      | nil => simp at hc
      | cons b s => simp at hc; simp [hc.1, hc.2]
    · rw [Option.map_eq_some_iff] at h
      obtain ⟨y, hy, rfl⟩ := h
      rw [ih hy]; simp
set_option maxRecDepth 3000 in
/-- The library's words. -/
theorem cut_lib (s : List UInt8) : Lib.cut s [58, 93] = match cutV s with
    | some x => (x.1, x.2, true)
    | none => (s, [], false) := by
  have key : match cutV s with
    | some x => Lib.index s [58, 93] = x.1.length
    | none => Lib.index s [58, 93] = -1 := by
    induction s with
    | nil => simp [cutV, Lib.index]
    | cons a s ih =>
      unfold cutV Lib.index
      have hp : ([58, 93] : List UInt8).isPrefixOf (a :: s) = decide (a = 58 ∧ s.head? = some 93) := by
        cases s with
        | nil => show (58 == a && false) = _; simp
        | cons b s =>
          show (58 == a && (93 == b && true)) = _
          rw [Bool.eq_iff_iff]
          simp only [Bool.and_true, Bool.and_eq_true, beq_iff_eq, List.head?_cons, Option.some.injEq, decide_eq_true_eq]
          exact ⟨fun ⟨h1, h2⟩ => ⟨h1.symm, h2.symm⟩, fun ⟨h1, h2⟩ => ⟨h1.symm, h2.symm⟩⟩
      by_cases hc : a = 58 ∧ s.head? = some 93
      · have hp1 : ([58, 93] : List UInt8).isPrefixOf (a :: s) = true := by rw [hp]; simpa using hc
        rw [if_pos hc, if_pos hp1]; simp
      · have hp0 : ¬([58, 93] : List UInt8).isPrefixOf (a :: s) = true := by rw [hp]; simpa using hc
        rw [if_neg hc, if_neg hp0]
        cases hcs : cutV s with
        | none => rw [hcs] at ih; simp only [Option.map_none] at *; rw [ih]; rfl
        | some x =>
          rw [hcs] at ih
          simp only [Option.map_some] at *
          rw [ih]
          have : ((x.1.length : Int) == -1) = false := by rw [beq_eq_false_iff_ne]; omega
          rw [this]; simp
  unfold Lib.cut
  cases hcs : cutV s with
  | none => rw [hcs] at key; simp only [] at key; rw [key]; simp
  | some x =>
    rw [hcs] at key
    simp only [] at key
    rw [key, if_pos (by omega)]
    have hs := cutV_split hcs
    simp only [Int.toNat_natCast]
    refine Prod.ext ?_ (Prod.ext ?_ rfl)
    · simp [hs]
    · show s.drop (x.1.length + 2) = x.2
      rw [hs, ← List.drop_drop]; simp
set_option maxRecDepth 3000 in
theorem partV_len {t : List UInt8} {x : (Int → Bool) × List UInt8} (h : partV t = some x) : x.2.length < t.length := by
  unfold partV at h
  split at h
  · cases h
  rename_i h0
  have hl : 0 < t.length := List.length_pos_iff.2 h0
  split at h
  · rw [Option.bind_eq_some_iff] at h
    obtain ⟨c, hc, h⟩ := h
    rw [Option.map_eq_some_iff] at h
    obtain ⟨y, _, rfl⟩ := h
    have := cutV_len hc
    simp at this ⊢; omega
  split at h
  · cases h
  split at h
  · rename_i h2
    split at h
    · injection h with h; subst h; simp; omega
    · cases h
  · injection h with h; subst h; simp; omega
set_option maxRecDepth 3000 in
theorem kindN_cases (t : List UInt8) : kindN t = 58 ∨ kindN t = 46 ∨ kindN t = 61 ∨ kindN t = 0 := by
  unfold kindN; split <;> omega
set_option maxRecDepth 3000 in
theorem indexByte_kind (c : UInt8) : decide (0 ≤ Lib.indexByte [58, 46, 61] c) = decide (c = 58 ∨ c = 46 ∨ c = 61) := by
  rw [Bool.eq_iff_iff]
  simp only [Lib.indexByte, decide_eq_true_eq]
  by_cases h1 : c = 58
  · subst h1; decide
  by_cases h2 : c = 46
  · subst h2; decide
  by_cases h3 : c = 61
  · subst h3; decide
  have e1 : (58 == c) = false := by rw [beq_eq_false_iff_ne]; exact fun e => h1 e.symm
  have e2 : (46 == c) = false := by rw [beq_eq_false_iff_ne]; exact fun e => h2 e.symm
  have e3 : (61 == c) = false := by rw [beq_eq_false_iff_ne]; exact fun e => h3 e.symm
  simp [e1, e2, e3, h1, h2, h3]
end Go.Proofs.YtmobcljinfoacaaDoor
