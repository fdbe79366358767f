/-
  Addresses in plain words.
-/
import Derived.Test.YtpdlmknbpggohaaDoorPk10
namespace Go.Proofs.YtpdlmknbpggohaaDoor

/-- An address. -/
structure Adr where
  kind : Nat
  n : Nat
  re : List UInt8
  add : Int
def adr0 : Adr := ⟨0, 0, [], 0⟩
def isBl (c : UInt8) : Bool := c.toNat == 32 || c.toNat == 9
def skipL (l : List UInt8) : List UInt8 := l.dropWhile isBl
def valD (l : List UInt8) : Nat := l.foldl (fun n c => 10 * n + (c.toNat - 48)) 0
/-- Digits, not too many; what is behind them. -/
def numL (l : List UInt8) : Option (Nat × List UInt8) := if 10 ≤ (l.takeWhile isDig).length then none else some (valD (l.takeWhile isDig), l.dropWhile isDig)
/-- What stands up to a delimiter; what is behind it; whether it was there. -/
def delimL (by_ : UInt8) : List UInt8 → List UInt8 × List UInt8 × Bool
  | [] => ([], [], false)
  | c :: l =>
    if c = by_ then ([], l, true)
    else if c.toNat = 92 then
      match l with
      | [] => ([c], [], false)
      | d :: r => if d = by_ then (d :: (delimL by_ r).1, (delimL by_ r).2) else (c :: d :: (delimL by_ r).1, (delimL by_ r).2)
    else (c :: (delimL by_ l).1, (delimL by_ l).2)
def baseL : List UInt8 → Option (Adr × List UInt8)
  | [] => some (adr0, [])
  | c :: l =>
    if c.toNat = 46 then some ({ adr0 with kind := 1 }, l)
    else if c.toNat = 36 then some ({ adr0 with kind := 2 }, l)
    else if c.toNat = 39 then
      match l with
      | [] => none
      | d :: r => if 97 ≤ d.toNat ∧ d.toNat ≤ 122 then some ({ adr0 with kind := 4, n := d.toNat - 97 }, r) else none
    else if c.toNat = 47 ∨ c.toNat = 63 then some ({ adr0 with kind := if c.toNat = 63 then 6 else 5, re := (delimL c l).1 }, (delimL c l).2.1)
    else if isDig c then (numL (c :: l)).map fun x => ({ adr0 with kind := 3, n := x.1 }, x.2)
    else some (adr0, c :: l)
/-- What is added to an address. -/
def loopL : Nat → Adr → Bool → List UInt8 → Option (Adr × List UInt8)
  | 0, _, _, _ => none
  | n + 1, a, there, l =>
    match skipL l with
    | [] => some (a, l)
    | c :: r =>
      if c.toNat = 43 ∨ c.toNat = 45 then
        (numL r).bind fun x => loopL n { a with kind := if there then a.kind else 1, add := a.add + (if c.toNat = 45 then -1 else 1) * (if x.2.length = r.length then 1 else x.1) } true x.2
      else if there = true ∧ isDig c = true then (numL (c :: r)).bind fun x => loopL n { a with add := a.add + x.1 } true x.2
      else some (a, l)
def oneL (l : List UInt8) : Option (Adr × List UInt8) :=
  (baseL (skipL l)).bind fun x => loopL (l.length + 1) x.1 (decide (x.2.length < (skipL l).length)) x.2
/-- A range's addresses. -/
def listL : Nat → List Adr → List Bool → List UInt8 → Option (List Adr × List Bool × List UInt8)
  | 0, _, _, _ => none
  | n + 1, us, ss, l =>
    (oneL l).bind fun x =>
      match skipL x.2 with
      | c :: r => if c.toNat = 44 ∨ c.toNat = 59 then listL n (us ++ [x.1]) (ss ++ [c.toNat == 59]) r else some (if us ≠ [] ∨ x.1.kind ≠ 0 then us ++ [x.1] else us, ss, x.2)
      | [] => some (if us ≠ [] ∨ x.1.kind ≠ 0 then us ++ [x.1] else us, ss, x.2)
def rangeL (l : List UInt8) : Option (List Adr × List Bool × List UInt8) :=
  match skipL l with
  | c :: r => if c.toNat = 37 then some ([{ adr0 with kind := 3, n := 1 }, { adr0 with kind := 2 }], [false], r) else listL (l.length + 1) [] [] l
  | [] => listL (l.length + 1) [] [] l

/-! ### what is behind is a part of what was read -/
set_option maxRecDepth 3000 in
theorem suffix_drop {a b : List UInt8} (h : a <:+ b) : a = b.drop (b.length - a.length) ∧ a.length ≤ b.length := by
  obtain ⟨t, rfl⟩ := h
  refine ⟨?_, by simp⟩
  simp
set_option maxRecDepth 3000 in
theorem skip_suffix (l : List UInt8) : skipL l <:+ l := List.dropWhile_suffix _
set_option maxRecDepth 3000 in
theorem num_suffix {l : List UInt8} {x : Nat × List UInt8} (h : numL l = some x) : x.2 <:+ l := by
  unfold numL at h
  split at h
  · cases h
  · injection h with h; subst h; exact List.dropWhile_suffix _
set_option maxRecDepth 3000 in
theorem delim_suffix (by_ : UInt8) : ∀ l : List UInt8, (delimL by_ l).2.1 <:+ l
  | [] => List.suffix_refl _
  | c :: l => by
    unfold delimL
    split
    · exact List.suffix_cons _ _
    · split
      · cases l with
        | nil => exact List.suffix_cons _ _
        | cons d r =>
          simp only []
          split
          · exact (delim_suffix by_ r).trans ((List.suffix_cons _ _).trans (List.suffix_cons _ _))
          · exact (delim_suffix by_ r).trans ((List.suffix_cons _ _).trans (List.suffix_cons _ _))
      · exact (delim_suffix by_ l).trans (List.suffix_cons _ _)
set_option maxRecDepth 3000 in
theorem base_suffix {l : List UInt8} {x : Adr × List UInt8} (h : baseL l = some x) : x.2 <:+ l := by
  unfold baseL at h
  split at h
  · injection h with h; subst h; exact List.suffix_refl _
  · split at h
    · injection h with h; subst h; exact List.suffix_cons _ _
    · split at h
      · injection h with h; subst h; exact List.suffix_cons _ _
      · split at h
        · split at h
          · cases h
          · split at h
            · injection h with h; subst h; exact (List.suffix_cons _ _).trans (List.suffix_cons _ _)
            · cases h
        · split at h
          · injection h with h; subst h; exact (delim_suffix _ _).trans (List.suffix_cons _ _)
          · split at h
            · rw [Option.map_eq_some_iff] at h
              obtain ⟨y, hy, rfl⟩ := h
              exact num_suffix hy
            · injection h with h; subst h; exact List.suffix_refl _
set_option maxRecDepth 3000 in
theorem loop_suffix (n : Nat) : ∀ {a : Adr} {t : Bool} {l : List UInt8} {x : Adr × List UInt8}, loopL n a t l = some x → x.2 <:+ l := by
  induction n with
  | zero => intro a t l x h; cases h
  | succ n ih =>
    intro a t l x h
    unfold loopL at h
    split at h
    · injection h with h; subst h; exact List.suffix_refl _
    · rename_i c r hs
      have h1 : (c :: r) <:+ l := hs ▸ skip_suffix l
      split at h
      · rw [Option.bind_eq_some_iff] at h
        obtain ⟨y, hy, h⟩ := h
        exact (ih h).trans ((num_suffix hy).trans ((List.suffix_cons _ _).trans h1))
      · split at h
        · rw [Option.bind_eq_some_iff] at h
          obtain ⟨y, hy, h⟩ := h
          exact (ih h).trans ((num_suffix hy).trans h1)
        · injection h with h; subst h; exact List.suffix_refl _
set_option maxRecDepth 3000 in
theorem one_suffix {l : List UInt8} {x : Adr × List UInt8} (h : oneL l = some x) : x.2 <:+ l := by
  unfold oneL at h
  rw [Option.bind_eq_some_iff] at h
  obtain ⟨y, hy, h⟩ := h
  exact (loop_suffix _ h).trans ((base_suffix hy).trans (skip_suffix l))
set_option maxRecDepth 3000 in
theorem list_suffix (n : Nat) : ∀ {us : List Adr} {ss : List Bool} {l : List UInt8} {x : List Adr × List Bool × List UInt8}, listL n us ss l = some x → x.2.2 <:+ l := by
  induction n with
  | zero => intro us ss l x h; cases h
  | succ n ih =>
    intro us ss l x h
    unfold listL at h
    rw [Option.bind_eq_some_iff] at h
    obtain ⟨y, hy, h⟩ := h
    have h1 := one_suffix hy
    split at h
    · rename_i c r hs
      split at h
      · exact (ih h).trans ((List.suffix_cons _ _).trans ((hs ▸ skip_suffix y.2).trans h1))
      · injection h with h; subst h; exact h1
    · injection h with h; subst h; exact h1
set_option maxRecDepth 3000 in
theorem range_suffix {l : List UInt8} {x : List Adr × List Bool × List UInt8} (h : rangeL l = some x) : x.2.2 <:+ l := by
  unfold rangeL at h
  split at h
  · rename_i c r hs
    split at h
    · injection h with h; subst h; exact (List.suffix_cons _ _).trans (hs ▸ skip_suffix l)
    · exact list_suffix _ h
  · exact list_suffix _ h
end Go.Proofs.YtpdlmknbpggohaaDoor
