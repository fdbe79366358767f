/-
  Several texts of the proof: Check, RegsPlain.
-/
import Derived.Test.YtnjagecmhdagkaaDoorPk01
import Derived.Test.YtnjagecmhdagkaaDoorPk06
set_option linter.unusedSimpArgs false
set_option linter.unusedVariables false
/-
  lines.Check, walked: for every seat whose code calls it.
-/
namespace Go.Proofs.YtnjagecmhdagkaaDoor
open Go.RowKit

/-- Has it a line's end within? -/
def hasEnd (s : List UInt8) : Bool := s.contains 10
def tooLong (s : List UInt8) : Bool := decide (1000 < s.length)
/-- May lines be? -/
def lcheckV (d : List (List UInt8)) : Int := if d.any hasEnd then 2 else if decide (2000 < d.length) || d.any tooLong then 3 else 0
set_option maxRecDepth 3000 in
theorem hasEnd_index (s : List UInt8) : decide (0 ≤ Lib.indexByte s 10) = hasEnd s := by
  unfold hasEnd
  by_cases h : 10 ∈ s
  · obtain ⟨a, b, rfl, ha⟩ : ∃ a b, s = a ++ 10 :: b ∧ 10 ∉ a := (cut_cases s).resolve_left (by simpa using h)
    rw [index_yes a b 10 ha]
    simp
  · rw [index_no s 10 h]
    simp [h]
/-- A place that is there just if b. -/
def SomeIdx (b : Bool) (w : World) (e : Ending) (w' : World) : Prop := ∃ r : Int, e = .returned (.int .i64 r) ∧ decide (0 ≤ r) = b ∧ w = w'
end Go.Proofs.YtnjagecmhdagkaaDoor

/-
  Registers, in plain words: what each letter has, and how it changes.
-/
namespace Go.Proofs.YtnjagecmhdagkaaDoor
open Go.RowKit

/-- A register's text. -/
structure Rg where
  d : List (List UInt8)
  whole : Bool
/-- None. -/
def rg0 : Rg := ⟨[], false⟩
/-- What each letter has. -/
abbrev RS := Int → Option Rg
def rs0 : RS := fun _ => none
def rsSet (S : RS) (k : Int) (x : Rg) : RS := fun j => if j = k then some x else S j
/-- May a register have it? -/
def rcheck (x : Rg) : Bool := decide (0 < x.d.length) && (lcheckV x.d == 0)
/-- The last line of one with the first one of the other. -/
def joinD : List (List UInt8) → List (List UInt8) → List (List UInt8)
  | [], b => b
  | [x], [] => [x]
  | [x], y :: b => (x ++ y) :: b
  | x :: a, b => x :: joinD a b
def rjoin (a b : Rg) : Rg :=
  if a.d.length = 0 ∨ b.d.length = 0 ∨ a.whole = true ∨ b.whole = true then ⟨a.d ++ b.d, a.whole || b.whole⟩ else ⟨joinD a.d b.d, false⟩
set_option maxRecDepth 3000 in
theorem joinD_parts (a : List (List UInt8)) (x y : List UInt8) (b : List (List UInt8)) : joinD (a ++ [x]) (y :: b) = a ++ (x ++ y) :: b := by
  induction a with
  | nil => rfl
  | cons z a ih =>
    rw [List.cons_append, List.cons_append, ← ih]
    cases a with
    | nil => rfl
    | cons w a => rfl
/-- A letter without regard to its case. -/
def lowL (k : Int) : Int := if 65 ≤ k ∧ k ≤ 90 then k + 32 else k
def rget (S : RS) (k : Int) : Rg × Int :=
  match S (lowL k) with
  | none => (rg0, 170)
  | some x => (x, 0)
def rset (S : RS) (k : Int) (x : Rg) : RS × Int :=
  if rcheck x = false then (S, 2)
  else if k = 0 then (rsSet S 0 x, 0)
  else if 65 ≤ k ∧ k ≤ 90 then
    if rcheck (rjoin ((S (k + 32)).getD rg0) x) = false then (S, 3)
    else (rsSet (rsSet S (k + 32) (rjoin ((S (k + 32)).getD rg0) x)) 0 x, 0)
  else if 97 ≤ k ∧ k ≤ 122 then (rsSet (rsSet S k x) 0 x, 0)
  else (S, 170)
/-- Each of the numbered ones goes on by one. -/
def rshift (S : RS) (c : Int) : RS := match S (c - 1) with
  | none => S
  | some x => rsSet S c x
def rshifts (S : RS) : Nat → RS
  | 0 => S
  | n + 1 => rshift (rshifts S n) (57 - n)
def rpush (S : RS) (x : Rg) : RS × Int :=
  if rcheck x = false then (S, 2) else (rsSet (rsSet (rshifts S 8) 49 x) 0 x, 0)
/-- What is laid may be. -/
def RGood (S : RS) : Prop := ∀ k x, S k = some x → rcheck x = true
set_option maxRecDepth 3000 in
theorem rgood0 : RGood rs0 := by intro k x h; cases h
set_option maxRecDepth 3000 in
theorem RGood.set {S : RS} (h : RGood S) (k : Int) {x : Rg} (hx : rcheck x = true) : RGood (rsSet S k x) := by
  intro j y hy
  unfold rsSet at hy
  split at hy
  · cases hy; exact hx
  · exact h j y hy
set_option maxRecDepth 3000 in
theorem RGood.shift {S : RS} (h : RGood S) (c : Int) : RGood (rshift S c) := by
  unfold rshift
  split
  · exact h
  · rename_i x hx; exact h.set c (h _ _ hx)
set_option maxRecDepth 3000 in
theorem RGood.shifts {S : RS} (h : RGood S) : ∀ n, RGood (rshifts S n)
  | 0 => h
  | n + 1 => (RGood.shifts h n).shift _
set_option maxRecDepth 3000 in
theorem RGood.rset {S : RS} (h : RGood S) (k : Int) (x : Rg) : RGood (rset S k x).1 := by
  unfold Go.Proofs.YtnjagecmhdagkaaDoor.rset
  repeat' split
  all_goals first
    | exact h
    | exact h.set _ (by simp_all)
    | exact (h.set _ (by simp_all)).set _ (by simp_all)
set_option maxRecDepth 3000 in
theorem RGood.rpush {S : RS} (h : RGood S) (x : Rg) : RGood (rpush S x).1 := by
  unfold Go.Proofs.YtnjagecmhdagkaaDoor.rpush
  split
  · exact h
  · exact ((h.shifts 8).set _ (by simp_all)).set _ (by simp_all)
set_option maxRecDepth 3000 in
theorem rcheck_len {x : Rg} (h : rcheck x = true) : 0 < x.d.length ∧ x.d.length ≤ 2000 ∧ ∀ s ∈ x.d, s.length ≤ 1000 := by
  unfold rcheck lcheckV at h
  simp only [Bool.and_eq_true, decide_eq_true_eq] at h
  obtain ⟨h1, h2⟩ := h
  refine ⟨h1, ?_⟩
  split at h2
  · simp at h2
  · split at h2
    · simp at h2
    · rename_i h3
      simp only [Bool.or_eq_true, decide_eq_true_eq, List.any_eq_true, not_or, not_exists, not_and] at h3
      refine ⟨by omega, fun s hs => ?_⟩
      have := h3.2 s hs
      simp [tooLong] at this
      omega
/-- Not greater than may be read. -/
structure Rg.fits (x : Rg) : Prop where
  len : x.d.length ≤ 4000
  each : ∀ s ∈ x.d, s.length ≤ 4000
set_option maxRecDepth 3000 in
theorem rg0_fits : rg0.fits := ⟨by simp [rg0], by simp [rg0]⟩
set_option maxRecDepth 3000 in
theorem rcheck_fits {x : Rg} (h : rcheck x = true) : x.d.length ≤ 2000 ∧ ∀ s ∈ x.d, s.length ≤ 1000 := (rcheck_len h).2
set_option maxRecDepth 3000 in
theorem RGood.getD {S : RS} (h : RGood S) (k : Int) : ((S k).getD rg0).d.length ≤ 2000 ∧ ∀ s ∈ ((S k).getD rg0).d, s.length ≤ 1000 := by
  cases hk : S k with
  | none => exact ⟨by simp [rg0], by simp [rg0]⟩
  | some x => exact rcheck_fits (h _ _ hk)
set_option maxRecDepth 3000 in
theorem joinD_fits (a b : List (List UInt8)) (n m : Nat) (ha : ∀ s ∈ a, s.length ≤ n) (hb : ∀ s ∈ b, s.length ≤ m) : (joinD a b).length ≤ a.length + b.length ∧ ∀ s ∈ joinD a b, s.length ≤ n + m := by
  induction a with
  | nil => exact ⟨by simp [joinD], fun s hs => by have := hb s hs; omega⟩
  | cons x a ih =>
    cases a with
    | nil =>
      cases b with
      | nil => exact ⟨by simp [joinD], fun s hs => by have := ha s hs; omega⟩
      | cons y b =>
        refine ⟨by simp [joinD], fun s hs => ?_⟩
        simp only [joinD, List.mem_cons] at hs
        rcases hs with rfl | hs
        · have := ha x (by simp); have := hb y (by simp); simp; omega
        · have := hb s (by simp [hs]); omega
    | cons z a =>
      obtain ⟨h1, h2⟩ := ih (fun s hs => ha s (by simp [hs]))
      have e : joinD (x :: z :: a) b = x :: joinD (z :: a) b := by cases b <;> rfl
      rw [e]
      refine ⟨by simp at h1 ⊢; omega, fun s hs => ?_⟩
      rcases List.mem_cons.1 hs with rfl | hs
      · have := ha s (by simp); omega
      · exact h2 s hs
set_option maxRecDepth 3000 in
theorem rjoin_fits (a b : Rg) (ha : a.d.length ≤ 2000 ∧ ∀ s ∈ a.d, s.length ≤ 1000) (hb : b.d.length ≤ 2000 ∧ ∀ s ∈ b.d, s.length ≤ 1000) : (rjoin a b).fits := by
  unfold rjoin
  split
  · refine ⟨by simp; omega, fun s hs => ?_⟩
    simp only [List.mem_append] at hs
    rcases hs with hs | hs
    · have := ha.2 s hs; omega
    · have := hb.2 s hs; omega
  · obtain ⟨h1, h2⟩ := joinD_fits a.d b.d 1000 1000 ha.2 hb.2
    exact ⟨by simp; omega, fun s hs => by have := h2 s hs; omega⟩
end Go.Proofs.YtnjagecmhdagkaaDoor
