/-
  Classes: what Parse answers, in plain words.
-/
import Derived.Test.YtmobcljinfoacaaDoorPk16
namespace Go.Proofs.YtmobcljinfoacaaDoor
open Go.RowKit

/-- The parts of an expression, up to the ']' behind one part at least. -/
def loopV : Nat → Bool → (Nat → Bool) → List UInt8 → Option ((Nat → Bool) × List UInt8)
  | 0, _, _, _ => none
  | n + 1, first, p, s => if first = false ∧ s.head? = some 93 then some (p, s) else (partV s).bind fun x => loopV n false (fun c => p c || x.1 c) x.2
set_option maxRecDepth 3000 in
theorem loopV_fuel (n : Nat) : ∀ (m : Nat) (first : Bool) (p : Nat → Bool) (s : List UInt8), s.length < n → s.length < m → loopV n first p s = loopV m first p s := by
  induction n with
  | zero => intro m f p s h; omega
  | succ n ih =>
    intro m f p s h1 h2
    cases m with
    | zero => omega
    | succ m =>
      unfold loopV
      split
      · rfl
      · cases hp : partV s with
        | none => rfl
        | some x =>
          have := partV_len hp
          exact ih m _ _ _ (by omega) (by omega)
def loopF (first : Bool) (p : Nat → Bool) (s : List UInt8) : Option ((Nat → Bool) × List UInt8) := loopV (s.length + 1) first p s
set_option maxRecDepth 3000 in
theorem loopF_eq (first : Bool) (p : Nat → Bool) (s : List UInt8) : loopF first p s = if first = false ∧ s.head? = some 93 then some (p, s) else (partV s).bind fun x => loopF false (fun c => p c || x.1 c) x.2 := by
  conv => lhs; unfold loopF loopV
  split
  · rfl
  · cases hp : partV s with
    | none => rfl
    | some x =>
      have := partV_len hp
      exact loopV_fuel _ _ _ _ _ (by omega) (by omega)
set_option maxRecDepth 3000 in
theorem loopF_end (p : Nat → Bool) (s : List UInt8) (h : s.head? = some 93) : loopF false p s = some (p, s) := by rw [loopF_eq, if_pos ⟨rfl, h⟩]
set_option maxRecDepth 3000 in
theorem loopF_next {first : Bool} {p : Nat → Bool} {s : List UInt8} {x : (Int → Bool) × List UInt8} (h : ¬(first = false ∧ s.head? = some 93)) (hp : partV s = some x) : loopF first p s = loopF false (fun c => p c || x.1 c) x.2 := by
  rw [loopF_eq, if_neg h, hp]; rfl
set_option maxRecDepth 3000 in
theorem loopF_none {first : Bool} {p : Nat → Bool} {s : List UInt8} (h : ¬(first = false ∧ s.head? = some 93)) (hp : partV s = none) : loopF first p s = none := by
  rw [loopF_eq, if_neg h, hp]; rfl
/-- An expression at the beginning of a text: its set, and how far it reaches. -/
def parseV (t : List UInt8) : Option ((Nat → Bool) × Nat) :=
  if t.head? = some 91 then
    if (t.drop 1).head? = some 94 then (loopF true (fun _ => false) (t.drop 2)).map fun x => (fun c => x.1 c != true, t.length - x.2.length + 1)
    else (loopF true (fun _ => false) (t.drop 1)).map fun x => (fun c => x.1 c != false, t.length - x.2.length + 1)
  else none
/-- Parse's answer. -/
def parseA (s : List UInt8) (at_ : Int) : (Nat → Bool) × Int × Int :=
  if 0 ≤ at_ ∧ at_ < s.length then
    match parseV (s.drop at_.toNat) with
    | some x => (x.1, at_ + x.2, 0)
    | none => (fun _ => false, 0, 90)
  else (fun _ => false, 0, 90)
set_option maxRecDepth 3000 in
theorem hasPrefix_one (t : List UInt8) (c : UInt8) : Lib.hasPrefix t [c] = decide (t.head? = some c) := by
  cases t with
  | nil => rfl
  | cons a t =>
    show (c == a && true) = _
    rw [Bool.eq_iff_iff]
    simp only [Bool.and_true, beq_iff_eq, List.head?_cons, Option.some.injEq, decide_eq_true_eq]
    exact ⟨fun h => h.symm, fun h => h.symm⟩
set_option maxRecDepth 3000 in
theorem trimPrefix_one (t : List UInt8) (c : UInt8) : Lib.trimPrefix t [c] = if t.head? = some c then t.drop 1 else t := by
  unfold Lib.trimPrefix
  rw [hasPrefix_one]
  simp
set_option maxRecDepth 3000 in
theorem head_bt (s : List UInt8) (k : Nat) (c : UInt8) (n : Nat) (hc : c.toNat = n) : (s.drop k).head? = some c ↔ k < s.length ∧ bt s k = n := by
  rw [List.head?_drop]
  constructor
  · intro h
    obtain ⟨h1, h2⟩ := List.getElem?_eq_some_iff.1 h
    exact ⟨h1, by rw [bt_get s k h1, h2, hc]⟩
  · rintro ⟨h1, h2⟩
    rw [List.getElem?_eq_getElem h1]
    rw [bt_get s k h1] at h2
    exact congrArg some (UInt8.toNat_inj.1 (by rw [h2, hc]))
set_option maxRecDepth 3000 in
/-- How the loop stands: the rest, what has been gathered. -/
theorem parseA_none {s : List UInt8} {at_ : Int} (h : ¬(0 ≤ at_ ∧ at_ < s.length)) : parseA s at_ = (fun _ => false, 0, 90) := by unfold parseA; rw [if_neg h]
set_option maxRecDepth 3000 in
theorem parseA_in {s : List UInt8} {k : Nat} (h : k < s.length) : parseA s k = match parseV (s.drop k) with
    | some x => (x.1, (k : Int) + x.2, 0)
    | none => (fun _ => false, 0, 90) := by
  unfold parseA
  rw [if_pos ⟨by omega, by omega⟩]
  simp only [Int.toNat_natCast]
set_option maxRecDepth 3000 in
theorem loopF_len {first : Bool} {p : Nat → Bool} {s : List UInt8} {x : (Nat → Bool) × List UInt8} (h : loopF first p s = some x) : x.2.length ≤ s.length := by
  have key : ∀ (n : Nat) (first : Bool) (p : Nat → Bool) (s : List UInt8) (x : (Nat → Bool) × List UInt8), loopV n first p s = some x → x.2.length ≤ s.length := by
    intro n
    induction n with
    | zero => intro f p s x h; cases h
    | succ n ih =>
      intro f p s x h
      unfold loopV at h
      split at h
      · injection h with h; subst h; exact Nat.le_refl _
      · rw [Option.bind_eq_some_iff] at h
        obtain ⟨y, hy, h⟩ := h
        have := ih _ _ _ _ h
        have := partV_len hy
        omega
  exact key _ _ _ _ _ h
end Go.Proofs.YtmobcljinfoacaaDoor
