/-
  Lines, in plain words: a text's lines, lines joined.
-/
import Derived.Test.YtmobcljinfoacaaDoorPk00
import Derived.Lib.IndexLaws
namespace Go.Proofs.YtmobcljinfoacaaDoor

/-- A text's lines, and whether each has an end. -/
def itemsL : List UInt8 → List (List UInt8 × Bool)
  | [] => []
  | c :: s => if c = 10 then ([], true) :: itemsL s else
    match itemsL s with
    | [] => [([c], false)]
    | x :: r => (c :: x.1, x.2) :: r
set_option maxRecDepth 3000 in
theorem itemsL_cut (a b : List UInt8) (h : 10 ∉ a) : itemsL (a ++ 10 :: b) = (a, true) :: itemsL b := by
  induction a with
  | nil => simp [itemsL]
  | cons c a ih =>
    have hc : c ≠ 10 := fun e => h (by simp [e])
    have := ih (fun e => h (by simp [e]))
    simp [itemsL, hc, this]
set_option maxRecDepth 3000 in
theorem itemsL_last (a : List UInt8) (h : 10 ∉ a) (h0 : a ≠ []) : itemsL a = [(a, false)] := by
  induction a with
  | nil => exact absurd rfl h0
  | cons c a ih =>
    have hc : c ≠ 10 := fun e => h (by simp [e])
    cases a with
    | nil => simp [itemsL, hc]
    | cons d a =>
      have := ih (fun e => h (by simp [e])) (by simp)
      rw [itemsL, if_neg hc, this]
set_option maxRecDepth 3000 in
/-- Each text is empty, or has a first line with an end, or is a line without one. -/
theorem cut_cases (s : List UInt8) : 10 ∉ s ∨ ∃ a b, s = a ++ 10 :: b ∧ 10 ∉ a := by
  induction s with
  | nil => exact .inl (by simp)
  | cons c s ih =>
    by_cases hc : c = 10
    · subst hc; exact .inr ⟨[], s, rfl, by simp⟩
    · rcases ih with h | ⟨a, b, rfl, h⟩
      · exact .inl (by simp [h, Ne.symm hc])
      · exact .inr ⟨c :: a, b, rfl, by simp [h, Ne.symm hc]⟩
set_option maxRecDepth 3000 in
/-- .. going by lines. -/
theorem lines_induct {p : List UInt8 → Prop} (h0 : p []) (h1 : ∀ a, a ≠ [] → 10 ∉ a → p a) (h2 : ∀ a b, 10 ∉ a → p b → p (a ++ 10 :: b)) (s : List UInt8) : p s := by
  have : ∀ n (s : List UInt8), s.length ≤ n → p s := by
    intro n
    induction n with
    | zero => intro s h; obtain rfl := List.eq_nil_of_length_eq_zero (Nat.le_zero.1 h); exact h0
    | succ n ih =>
      intro s h
      rcases cut_cases s with hs | ⟨a, b, rfl, ha⟩
      · by_cases e : s = []
        · subst e; exact h0
        · exact h1 s e hs
      · exact h2 a b ha (ih b (by simp at h; omega))
  exact this _ s (Nat.le_refl _)
def linesL (s : List UInt8) : List (List UInt8) := (itemsL s).map (·.1)
def endedL (s : List UInt8) : Bool := ((itemsL s).getLast?.map (·.2)).getD true
set_option maxRecDepth 3000 in
theorem linesL_nil : linesL [] = [] := rfl
set_option maxRecDepth 3000 in
theorem linesL_cut (a b : List UInt8) (h : 10 ∉ a) : linesL (a ++ 10 :: b) = a :: linesL b := by simp [linesL, itemsL_cut a b h]
set_option maxRecDepth 3000 in
theorem linesL_last (a : List UInt8) (h : 10 ∉ a) (h0 : a ≠ []) : linesL a = [a] := by simp [linesL, itemsL_last a h h0]
set_option maxRecDepth 3000 in
theorem endedL_nil : endedL [] = true := rfl
set_option maxRecDepth 3000 in
theorem endedL_cut (a b : List UInt8) (h : 10 ∉ a) : endedL (a ++ 10 :: b) = endedL b := by
  unfold endedL
  rw [itemsL_cut a b h]
  cases e : itemsL b with
  | nil => rfl
  | cons x r => simp [List.getLast?_cons_cons]
set_option maxRecDepth 3000 in
theorem endedL_last (a : List UInt8) (h : 10 ∉ a) (h0 : a ≠ []) : endedL a = false := by simp [endedL, itemsL_last a h h0]
/-- Lines, each with an end. -/
def joinL : List (List UInt8) → List UInt8
  | [] => []
  | a :: r => a ++ 10 :: joinL r
set_option maxRecDepth 3000 in
theorem joinL_append (a b : List (List UInt8)) : joinL (a ++ b) = joinL a ++ joinL b := by
  induction a with
  | nil => rfl
  | cons x a ih => simp [joinL, ih]
set_option maxRecDepth 3000 in
/-- What is joined is split again. -/
theorem lines_join (l : List (List UInt8)) (h : ∀ a ∈ l, 10 ∉ a) : linesL (joinL l) = l ∧ endedL (joinL l) = true := by
  induction l with
  | nil => exact ⟨rfl, rfl⟩
  | cons a l ih =>
    obtain ⟨h1, h2⟩ := ih (fun x hx => h x (by simp [hx]))
    have ha := h a (by simp)
    exact ⟨by rw [joinL, linesL_cut _ _ ha, h1], by rw [joinL, endedL_cut _ _ ha, h2]⟩
set_option maxRecDepth 3000 in
/-- A text is its lines joined, but for the last end. -/
theorem join_lines (s : List UInt8) : joinL (linesL s) = if endedL s then s else s ++ [10] := by
  induction s using lines_induct with
  | h0 => rfl
  | h1 a h0 h => rw [linesL_last a h h0, endedL_last a h h0]; simp [joinL]
  | h2 a b h ih =>
    rw [linesL_cut a b h, endedL_cut a b h, joinL, ih]
    split <;> simp
set_option maxRecDepth 3000 in
theorem lines_whole (s : List UInt8) : ∀ a ∈ linesL s, 10 ∉ a := by
  induction s using lines_induct with
  | h0 => simp [linesL_nil]
  | h1 a h0 h => rw [linesL_last a h h0]; simpa using h
  | h2 a b h ih => rw [linesL_cut a b h]; simpa using ⟨h, ih⟩
/-- So many ends. -/
def endsL (s : List UInt8) : Nat := s.countP (· = 10)
set_option maxRecDepth 3000 in
theorem lines_many (s : List UInt8) : (linesL s).length = if endedL s then endsL s else endsL s + 1 := by
  induction s using lines_induct with
  | h0 => rfl
  | h1 a h0 h =>
    have : endsL a = 0 := by unfold endsL; rw [List.countP_eq_zero]; intro x hx; simp; rintro rfl; exact h hx
    rw [linesL_last a h h0, endedL_last a h h0, this]; rfl
  | h2 a b h ih =>
    have : endsL a = 0 := by unfold endsL; rw [List.countP_eq_zero]; intro x hx; simp; rintro rfl; exact h hx
    have e : endsL (a ++ 10 :: b) = endsL b + 1 := by
      unfold endsL at *; rw [List.countP_append, List.countP_cons, this]; simp
    rw [linesL_cut a b h, endedL_cut a b h, e, List.length_cons, ih]
    split <;> rfl
set_option maxRecDepth 3000 in
theorem lines_lastly (s : List UInt8) (h : endedL s = false) : ∃ l a, linesL s = l ++ [a] ∧ a ≠ [] := by
  induction s using lines_induct with
  | h0 => cases h
  | h1 a h0 h' => exact ⟨[], a, linesL_last a h' h0, h0⟩
  | h2 a b h' ih =>
    rw [endedL_cut a b h'] at h
    obtain ⟨l, c, e, hc⟩ := ih h
    exact ⟨a :: l, c, by rw [linesL_cut a b h', e]; rfl, hc⟩
set_option maxRecDepth 3000 in
theorem lines_parts (a b : List UInt8) (h : endedL a = true) : linesL (a ++ b) = linesL a ++ linesL b ∧ endedL (a ++ b) = endedL b := by
  induction a using lines_induct with
  | h0 => exact ⟨rfl, rfl⟩
  | h1 a h0 h' => rw [endedL_last a h' h0] at h; cases h
  | h2 a c h' ih =>
    rw [endedL_cut a c h'] at h
    obtain ⟨h1, h2⟩ := ih h
    rw [List.append_assoc, List.cons_append, linesL_cut _ _ h', linesL_cut _ _ h', endedL_cut _ _ h', h1, h2]
    exact ⟨rfl, rfl⟩
end Go.Proofs.YtmobcljinfoacaaDoor
