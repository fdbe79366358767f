/-
  Several texts of the proof: MatFitP, MatFitV.
-/
import Derived.Test.YtnjagecmhdagkaaDoorPk42
import Derived.Test.YtnjagecmhdagkaaDoorPk23
import Derived.Test.YtnjagecmhdagkaaDoorPk41
set_option linter.unusedSimpArgs false
set_option linter.unusedVariables false
/-
  Matches: rows of letters and dots, starred or not, in plain words.
-/
namespace Go.Proofs.YtnjagecmhdagkaaDoor
open Go.RowKit

/-- A letter, or any byte, and whether it may be there as often as one likes. -/
structure Atm where
  c : UInt8
  any : Bool
  star : Bool
def leafA (x : Atm) : NdV := if x.any then ndK 2 else byteN x.c.toNat
def oneA (x : Atm) : List UInt8 := (if x.any then 46 else x.c) :: (if x.star then [42] else [])
def patA : List Atm → List UInt8
  | [] => []
  | x :: l => oneA x ++ patA l
def frA : List Atm → Fr
  | [] => .nil
  | x :: l => if x.star then .cons (timesN 0 (-1)) (Fr.one (leafA x) .nil) (frA l) else .cons (leafA x) .nil (frA l)
def partsA : List Atm → Nat
  | [] => 0
  | x :: l => (if x.star then 2 else 1) + partsA l
/-- Its bytes say nothing of their own. -/
def PlainA (l : List Atm) : Prop := ∀ x ∈ l, PlainB x.c
set_option maxRecDepth 3000 in
theorem patA_app (l m : List Atm) : patA (l ++ m) = patA l ++ patA m := by
  induction l with
  | nil => rfl
  | cons x l ih => simp only [List.cons_append, patA, ih, List.append_assoc]
set_option maxRecDepth 3000 in
theorem oneA_len (x : Atm) : (oneA x).length ≤ 2 := by unfold oneA; cases x.star <;> simp
set_option maxRecDepth 3000 in
theorem patA_len (l : List Atm) : (patA l).length ≤ 2 * l.length := by
  induction l with
  | nil => simp [patA]
  | cons x l ih => have := oneA_len x; simp only [patA, List.length_append, List.length_cons]; omega
set_option maxRecDepth 3000 in
theorem partsA_le (l : List Atm) : partsA l ≤ 2 * l.length := by
  induction l with
  | nil => simp [partsA]
  | cons x l ih => simp only [partsA, List.length_cons]; split <;> omega
set_option maxRecDepth 3000 in
theorem patA_noTimes {l : List Atm} (hl : PlainA l) {r : List UInt8} (hr : NoTimes r) : NoTimes (patA l ++ r) := by
  cases l with
  | nil => exact hr
  | cons x l =>
    have hx := hl x (by simp)
    unfold patA oneA
    cases hany : x.any with
    | true => constructor <;> simp [ahead_cons]
    | false =>
      constructor
      · simp only [Bool.false_eq_true, if_false, List.cons_append, ahead_cons, ahead_nil]
        have : ¬ (42 : UInt8) = x.c := fun e => hx.2.2.2.2.2 (by rw [← e]; rfl)
        simp [this]
      · simp only [Bool.false_eq_true, if_false, List.cons_append, ahead_cons]
        have : ¬ (92 : UInt8) = x.c := fun e => hx.1 (by rw [← e]; rfl)
        simp [this]
set_option maxRecDepth 3000 in
theorem more_star {l : List UInt8} (hl : NoTimes l) (x : Nk) (hk : x.1.kind ≠ 4 ∧ x.1.kind ≠ 5) (p g : Nat) (r : Bool) (op : List Nat) (hp : p + 1 ≤ 200) : more1 x ⟨42 :: l, p, g, r, op⟩ = some ((timesN 0 (-1), Fr.one x.1 x.2), ⟨l, p + 1, g, r, op⟩) := by
  unfold more1
  rw [if_neg (by rintro (h | h); exact hk.1 h; exact hk.2 h), timesF_eq]
  simp only [ahead_cons, ahead_nil]
  simp only [decide_true, Bool.and_self, if_true, List.drop_succ_cons, List.drop_zero, node1, hp]
  rw [Option.bind_some, timesF_eq]
  simp [hl.1, hl.2]
set_option maxRecDepth 3000 in
theorem leafA_kind (x : Atm) : (leafA x).kind = 1 ∨ (leafA x).kind = 2 := by unfold leafA; cases x.any <;> simp [ndK, byteN]
set_option maxRecDepth 3000 in
theorem part_leafA {x : Atm} (hx : PlainB x.c) (first begun : Bool) (l : List UInt8) (p g : Nat) (r : Bool) (op : List Nat) :
    partF first begun ⟨(if x.any then 46 else x.c) :: l, p, g, r, op⟩ = (node1 ⟨l, p, g, r, op⟩).map fun s => ((leafA x, .nil), s) := by
  unfold leafA
  cases hany : x.any with
  | true => rfl
  | false => simp only [Bool.false_eq_true, if_false]; exact part_plain hx first begun l p g r op
set_option maxRecDepth 3000 in
theorem stop_leafA {x : Atm} (hx : PlainB x.c) (l : List UInt8) : stopV ((if x.any then 46 else x.c) :: l) = false := by
  unfold stopV
  cases hany : x.any with
  | true => simp [ahead_cons]
  | false =>
    have : ¬ (92 : UInt8) = x.c := fun e => hx.1 (by rw [← e]; rfl)
    simp [ahead_cons, this]
set_option maxRecDepth 3000 in
/-- A row of letters and dots, up to where a row ends. -/
theorem row_A {r : List UInt8} (hr : stopV r = true) (hrt : NoTimes r) : ∀ (l : List Atm) (first begun : Bool) (p g : Nat) (rf : Bool) (op : List Nat), PlainA l → p + partsA l ≤ 200 →
    rowF first begun ⟨patA l ++ r, p, g, rf, op⟩ = some (frA l, ⟨r, p + partsA l, g, rf, op⟩) := by
  intro l
  induction l with
  | nil =>
    intro f b p g rf op _ _
    rw [rowF_eq]
    simp only [patA, List.nil_append, hr, if_true]
    rfl
  | cons x l ih =>
    intro f b p g rf op hl hp
    have hx := hl x (by simp)
    have hl2 : PlainA l := fun y hy => hl y (by simp [hy])
    have hnt := patA_noTimes hl2 hrt
    have hp1 : p + 1 ≤ 200 := by unfold partsA at hp; split at hp <;> omega
    have hk := leafA_kind x
    rw [rowF_eq]
    simp only [patA, oneA, List.cons_append, stop_leafA hx, Bool.false_eq_true, if_false, part_leafA hx]
    unfold node1
    simp only [hp1, if_true, Option.map_some, Option.bind_some]
    have hb : ((leafA x).kind == 4) = false := by rcases hk with h | h <;> rw [h] <;> rfl
    cases hs : x.star with
    | true =>
      simp only [partsA, hs, if_true] at hp
      simp only [if_true, List.cons_append, List.nil_append]
      rw [more_star hnt _ ⟨by show (leafA x).kind ≠ 4; omega, by show (leafA x).kind ≠ 5; omega⟩ _ _ _ _ (by omega)]
      simp only [Option.bind_some]
      rw [ih _ _ _ _ _ _ hl2 (by omega)]
      simp only [Option.map_some, frA, partsA, hs, if_true]
      congr 3; omega
    | false =>
      simp only [partsA, hs, Bool.false_eq_true, if_false] at hp
      simp only [Bool.false_eq_true, if_false, List.nil_append]
      rw [more_plain hnt]
      simp only [Option.bind_some]
      rw [ih _ _ _ _ _ _ hl2 (by omega)]
      simp only [Option.map_some, frA, partsA, hs, Bool.false_eq_true, if_false]
      congr 3; omega
set_option maxRecDepth 3000 in
theorem pat_A {l : List Atm} (hl : PlainA l) (hp : partsA l ≤ 200) : patV (patA l) = some (frA l, ⟨[], partsA l, 0, false, []⟩) := by
  unfold patV ps0
  have h := row_A (r := []) rfl ⟨rfl, rfl⟩ l true false 0 0 false [] hl (by omega)
  rw [List.append_nil] at h
  rw [h]
  simp
/-- Two groups of such rows, and a row behind them. -/
def patG (a b c : List Atm) : List UInt8 := 92 :: 40 :: (patA a ++ 92 :: 41 :: 92 :: 40 :: (patA b ++ 92 :: 41 :: patA c))
def frG2 (a b c : List Atm) : Fr := .cons (groupN 1) (frA a) (.cons (groupN 2) (frA b) (frA c))
set_option maxRecDepth 3000 in
theorem part_grpA {a : List Atm} (ha : PlainA a) (first begun : Bool) (l : List UInt8) (p g : Nat) (r : Bool) (op : List Nat) (hp : p + 1 + partsA a ≤ 200) (hg : g + 1 ≤ 9) :
    partF first begun ⟨92 :: 40 :: (patA a ++ 92 :: 41 :: l), p, g, r, op⟩ = some ((groupN (g + 1), frA a), ⟨l, p + 1 + partsA a, g + 1, r, op⟩) := by
  have hrow := row_A (r := 92 :: 41 :: l) (by simp [stopV, ahead_cons, ahead_nil]) (by constructor <;> simp [ahead_cons]) a true false (p + 1) (g + 1) r (op ++ [g + 1]) ha hp
  unfold partF partW
  simp only [show ((92 : UInt8).toNat = 92) from rfl, if_true]
  unfold slashV
  simp only [show ((40 : UInt8).toNat = 40) from rfl, if_true]
  unfold groupV
  rw [if_pos hg]
  unfold node1
  simp only [show p + 1 ≤ 200 by omega, if_true, Option.bind_some]
  rw [hrow]
  simp [ahead_cons, ahead_nil]
set_option maxRecDepth 3000 in
theorem pat_G {a b c : List Atm} (ha : PlainA a) (hb : PlainA b) (hc : PlainA c) (hp : 2 + partsA a + partsA b + partsA c ≤ 200) : patV (patG a b c) = some (frG2 a b c, ⟨[], 2 + partsA a + partsA b + partsA c, 2, false, []⟩) := by
  have h1 := part_grpA ha true false (92 :: 40 :: (patA b ++ 92 :: 41 :: patA c)) 0 0 false [] (by omega) (by omega)
  have h2 := part_grpA hb false false (patA c) (0 + 1 + partsA a) (0 + 1) false [] (by omega) (by omega)
  have h3 := row_A (r := []) rfl ⟨rfl, rfl⟩ c false false (0 + 1 + partsA a + 1 + partsA b) (0 + 1 + 1) false [] hc (by omega)
  rw [List.append_nil] at h3
  have hn1 : NoTimes (92 :: 40 :: (patA b ++ 92 :: 41 :: patA c)) := by constructor <;> simp [ahead_cons]
  have hn2 : NoTimes (patA c) := by have := patA_noTimes hc (r := []) ⟨rfl, rfl⟩; rwa [List.append_nil] at this
  unfold patV ps0 patG
  rw [rowF_eq]
  simp only [show stopV (92 :: 40 :: (patA a ++ 92 :: 41 :: 92 :: 40 :: (patA b ++ 92 :: 41 :: patA c))) = false by simp [stopV, ahead_cons], Bool.false_eq_true, if_false]
  rw [h1]
  simp only [Option.bind_some]
  rw [more_plain hn1]
  simp only [Option.bind_some]
  rw [rowF_eq]
  simp only [show stopV (92 :: 40 :: (patA b ++ 92 :: 41 :: patA c)) = false by simp [stopV, ahead_cons], Bool.false_eq_true, if_false]
  rw [show ((groupN (0 + 1)).kind == 4) = false from rfl, h2]
  simp only [Option.bind_some]
  rw [more_plain hn2]
  simp only [Option.bind_some]
  rw [show ((groupN (0 + 1 + 1)).kind == 4) = false from rfl, h3]
  simp only [Option.map_some, Option.bind_some, List.isEmpty_nil, if_true, frG2]
  congr 3
  omega
/-! ### where such a row may end -/
/-- Does a byte of a text fit? -/
def fitB (x : Atm) (s : List UInt8) (k : Nat) : Prop := k < s.length ∧ (x.any = true ∨ x.c.toNat = ch s k)
def stepP (x : Atm) (s : List UInt8) (a i : Nat) : Prop := if x.star = true then a ≤ i ∧ ∀ k, a ≤ k → k < i → fitB x s k else i = a + 1 ∧ fitB x s a
/-- Such a row fits from one place up to another one. -/
def FitP (s : List UInt8) : List Atm → Nat → Nat → Prop
  | [], a, b => b = a
  | x :: l, a, b => ∃ i, stepP x s a i ∧ FitP s l i b
set_option maxRecDepth 3000 in
theorem FitP.append {s : List UInt8} : ∀ {l m : List Atm} {a b : Nat}, FitP s (l ++ m) a b ↔ ∃ i, FitP s l a i ∧ FitP s m i b := by
  intro l
  induction l with
  | nil => intro m a b; exact ⟨fun h => ⟨a, rfl, h⟩, fun ⟨i, h1, h2⟩ => by rw [show i = a from h1] at h2; exact h2⟩
  | cons x l ih =>
    intro m a b
    simp only [List.cons_append, FitP]
    constructor
    · rintro ⟨i, h1, h2⟩
      obtain ⟨j, h3, h4⟩ := ih.1 h2
      exact ⟨j, ⟨i, h1, h3⟩, h4⟩
    · rintro ⟨j, ⟨i, h1, h3⟩, h4⟩
      exact ⟨i, h1, ih.2 ⟨j, h3, h4⟩⟩
set_option maxRecDepth 3000 in
theorem stepP.le {x : Atm} {s : List UInt8} {a i : Nat} (h : stepP x s a i) : a ≤ i ∧ (a ≤ s.length → i ≤ s.length) := by
  unfold stepP at h
  split at h
  · refine ⟨h.1, fun ha => ?_⟩
    rcases Nat.lt_or_ge a i with h2 | h2
    · have := (h.2 (i - 1) (by omega) (by omega)).1; omega
    · omega
  · have := h.2.1; exact ⟨by omega, fun _ => by omega⟩
set_option maxRecDepth 3000 in
theorem FitP.le {s : List UInt8} : ∀ {l : List Atm} {a b : Nat}, FitP s l a b → a ≤ b ∧ (a ≤ s.length → b ≤ s.length) := by
  intro l
  induction l with
  | nil => intro a b h; rw [show b = a from h]; exact ⟨Nat.le_refl _, id⟩
  | cons x l ih =>
    rintro a b ⟨i, h1, h2⟩
    have := h1.le
    have := ih h2
    exact ⟨by omega, fun h => by omega⟩
set_option maxRecDepth 3000 in
/-- A letter or dot without a star. -/
theorem node_leafA {x : Atm} {s : List UInt8} {R : Nat → Pl} {a i : Nat} : nodeS s (leafA x) R a i = true ↔ i = a + 1 ∧ fitB x s a := by
  have hk := leafA_kind x
  unfold nodeS
  rw [if_neg (by omega), if_neg (by omega)]
  unfold oneV
  rw [if_neg (by omega), if_neg (by omega), if_neg (by omega)]
  by_cases h : a < s.length ∧ ((leafA x).kind = 2 ∨ ((leafA x).kind = 3 ∧ (leafA x).set (ch s a) = true) ∨ ((leafA x).kind = 1 ∧ (leafA x).byte = ch s a))
  · rw [if_pos h]
    simp only [one1_iff]
    refine ⟨fun e => ⟨e, h.1, ?_⟩, fun e => e.1⟩
    have := h.2
    unfold leafA at this
    cases hany : x.any with
    | true => exact .inl rfl
    | false =>
      rw [hany] at this
      simp only [Bool.false_eq_true, if_false, byteN, ndK] at this
      refine .inr ?_
      rcases this with h | h | h
      · cases h
      · cases h.1
      · exact h.2
  · rw [if_neg h]
    simp only [Bool.false_eq_true, false_iff]
    rintro ⟨_, h1, h2⟩
    refine h ⟨h1, ?_⟩
    unfold leafA
    cases hany : x.any with
    | true => exact .inl rfl
    | false =>
      rw [hany] at h2
      refine .inr (.inr ⟨rfl, ?_⟩)
      rcases h2 with h2 | h2
      · cases h2
      · exact h2
set_option maxRecDepth 3000 in
theorem ends_leafA {x : Atm} {s : List UInt8} {a i : Nat} (ha : a ≤ s.length) : endsF s (Fr.one (leafA x) .nil) a i = true ↔ i = a + 1 ∧ fitB x s a := by
  unfold Fr.one
  rw [endsF_cons ha]
  constructor
  · rintro ⟨j, hj, h1, h2⟩
    have e : i = j := by simpa [endsF, endsR, one1] using h2
    subst e
    exact node_leafA.1 h1
  · intro h
    exact ⟨i, by have := h.2.1; omega, node_leafA.2 h, by simp [endsF, endsR, one1]⟩
set_option maxRecDepth 3000 in
/-- So many bytes, each of which fits. -/
theorem turns_bytes {s : List UInt8} {n : Nat} (hn : n = s.length) {x : NdV} {R : Nat → Pl} {p : Nat → Prop} (hR : ∀ a i, a ≤ n → (R a i = true ↔ i = a + 1 ∧ a < n ∧ p a)) :
    ∀ (f a d j : Nat), a ≤ n → fuelT n x a d ≤ f → (0 ≤ x.mx → (d : Int) ≤ x.mx) →
      (turnsF n x R f a d j = true ↔ a ≤ j ∧ j ≤ n ∧ (∀ k, a ≤ k → k < j → p k) ∧ x.mn ≤ d + (j - a) ∧ (0 ≤ x.mx → ((d + (j - a) : Nat) : Int) ≤ x.mx)) := by
  intro f
  induction f with
  | zero => intro a d j ha hf; unfold fuelT at hf; omega
  | succ f ih =>
    intro a d j ha hf hd
    unfold turnsF
    simp only [Bool.or_eq_true, Bool.and_eq_true, decide_eq_true_eq, anyTo_iff]
    have hcap : x.mx < 0 → capD x d = min d x.mn := fun h => by unfold capD; rw [if_pos h]
    have hcap2 : ¬ x.mx < 0 → capD x d = d := fun h => by unfold capD; rw [if_neg h]
    constructor
    · rintro (⟨h1, rfl⟩ | ⟨h1, i, hi, ⟨h2, h3⟩, h4⟩)
      · refine ⟨Nat.le_refl _, ha, fun k h5 h6 => by omega, ?_, fun h => by have := hd h; omega⟩
        by_cases h : x.mx < 0
        · rw [hcap h] at h1; omega
        · rw [hcap2 h] at h1; omega
      · obtain ⟨rfl, h5, h6⟩ := (hR a i ha).1 h2
        have hl := fuel_next (n := n) (x := x) (a := a) (i := a + 1) (d := d) h1 (.inl (by omega)) hi
        have h7 : 0 ≤ x.mx → ((capD x d + 1 : Nat) : Int) ≤ x.mx := fun h => by
          rw [hcap2 (by omega)]
          unfold moreD at h1
          rw [hcap2 (by omega)] at h1
          simp only [Bool.or_eq_true, decide_eq_true_eq] at h1
          omega
        obtain ⟨q1, q2, q3, q4, q5⟩ := (ih (a + 1) (capD x d + 1) j hi (by omega) h7).1 h4
        refine ⟨by omega, q2, fun k h8 h9 => ?_, ?_, fun h => ?_⟩
        · rcases Nat.lt_or_ge a k with h10 | h10
          · exact q3 k (by omega) h9
          · obtain rfl : k = a := by omega
            exact h6
        · by_cases h : x.mx < 0
          · rw [hcap h] at q4; omega
          · rw [hcap2 h] at q4; omega
        · have := q5 h
          rw [hcap2 (by omega)] at this
          omega
    · rintro ⟨h1, h2, h3, h4, h5⟩
      rcases Nat.lt_or_ge a j with h6 | h6
      · right
        have hm : moreD x (capD x d) = true := by
          unfold moreD
          by_cases h : x.mx < 0
          · simp [h]
          · rw [hcap2 h]
            have := h5 (by omega)
            simp only [Bool.or_eq_true, decide_eq_true_eq]
            omega
        refine ⟨hm, a + 1, by omega, ⟨(hR a (a + 1) ha).2 ⟨rfl, by omega, h3 a (Nat.le_refl _) h6⟩, .inl (by omega)⟩, ?_⟩
        have hl := fuel_next (n := n) (x := x) (a := a) (i := a + 1) (d := d) hm (.inl (by omega)) (by omega)
        rw [ih (a + 1) (capD x d + 1) j (by omega) (by omega) (fun h => by rw [hcap2 (by omega)]; have := h5 h; omega)]
        refine ⟨by omega, h2, fun k h8 h9 => h3 k (by omega) h9, ?_, fun h => ?_⟩
        · by_cases h : x.mx < 0
          · rw [hcap h]; omega
          · rw [hcap2 h]; omega
        · rw [hcap2 (by omega)]
          have := h5 h
          omega
      · left
        obtain rfl : j = a := by omega
        refine ⟨?_, rfl⟩
        by_cases h : x.mx < 0
        · rw [hcap h]; omega
        · rw [hcap2 h]; omega
set_option maxRecDepth 3000 in
theorem node_times {s : List UInt8} {x : Atm} {m : Nat} {k : Int} {a j : Nat} (ha : a ≤ s.length) : nodeS s (timesN m k) (endsF s (Fr.one (leafA x) .nil)) a j = true ↔ a ≤ j ∧ j ≤ s.length ∧ (∀ i, a ≤ i → i < j → fitB x s i) ∧ m ≤ j - a ∧ (0 ≤ k → ((j - a : Nat) : Int) ≤ k) := by
  unfold nodeS
  rw [if_neg (by simp [timesN, ndK]), if_pos (show (timesN m k).kind = 8 from rfl)]
  unfold turnsS
  rw [turns_bytes (p := fitB x s) rfl (fun a i ha => (ends_leafA ha).trans ⟨fun h => ⟨h.1, h.2.1, h.2⟩, fun h => ⟨h.1, h.2.2⟩⟩) _ a 0 j ha (Nat.le_refl _) (fun h => h)]
  simp only [timesN, Nat.zero_add]
set_option maxRecDepth 3000 in
theorem ends_A {s : List UInt8} : ∀ {l : List Atm} {a j : Nat}, a ≤ s.length → (endsF s (frA l) a j = true ↔ FitP s l a j) := by
  intro l
  induction l with
  | nil => intro a j ha; simp [frA, FitP, endsF, endsR, one1]
  | cons x l ih =>
    intro a j ha
    unfold frA
    cases hs : x.star with
    | true =>
      simp only [if_true]
      rw [endsF_cons ha]
      unfold FitP stepP
      simp only [hs, if_true]
      constructor
      · rintro ⟨i, hi, h1, h2⟩
        obtain ⟨q1, q2, q3, _⟩ := (node_times ha).1 h1
        exact ⟨i, ⟨q1, q3⟩, (ih hi).1 h2⟩
      · rintro ⟨i, ⟨h1, h3⟩, h2⟩
        have hi : i ≤ s.length := by
          rcases Nat.lt_or_ge a i with h4 | h4
          · have := (h3 (i - 1) (by omega) (by omega)).1; omega
          · omega
        exact ⟨i, hi, (node_times ha).2 ⟨h1, hi, h3, by omega, fun h => absurd h (by omega)⟩, (ih hi).2 h2⟩
    | false =>
      simp only [Bool.false_eq_true, if_false]
      rw [endsF_cons ha]
      unfold FitP stepP
      simp only [hs, Bool.false_eq_true, if_false]
      constructor
      · rintro ⟨i, hi, h1, h2⟩
        exact ⟨i, node_leafA.1 h1, (ih hi).1 h2⟩
      · rintro ⟨i, h1, h2⟩
        have hi : i ≤ s.length := by have := h1.2.1; omega
        exact ⟨i, hi, node_leafA.2 h1, (ih hi).2 h2⟩
/-! ### where a match is found -/
set_option maxRecDepth 3000 in
theorem maxOf_top {P : Pl} : ∀ {n e : Nat}, P e = true → e ≤ n → (∀ i, i ≤ n → P i = true → i ≤ e) → maxOf P n = some e := by
  intro n
  induction n with
  | zero =>
    intro e h1 h2 _; obtain rfl : e = 0 := by omega
    simp [maxOf, h1]
  | succ n ih =>
    intro e h1 h2 h3
    simp only [maxOf]
    by_cases hn : P (n + 1) = true
    · rw [if_pos hn]
      have := h3 (n + 1) (Nat.le_refl _) hn
      congr 1; omega
    · rw [if_neg hn]
      have : e ≠ n + 1 := fun h => hn (h ▸ h1)
      exact ih h1 (by omega) (fun i h4 h5 => h3 i (by omega) h5)
set_option maxRecDepth 3000 in
theorem maxOf_no {P : Pl} : ∀ {n : Nat}, (∀ i, i ≤ n → P i = false) → maxOf P n = none := by
  intro n
  induction n with
  | zero => intro h; simp [maxOf, h 0 (Nat.le_refl _)]
  | succ n ih => intro h; simp only [maxOf]; rw [if_neg (by rw [h _ (Nat.le_refl _)]; decide)]; exact ih fun i hi => h i (by omega)
set_option maxRecDepth 3000 in
theorem plain_some {s : List UInt8} {f : Fr} : ∀ {n k a e : Nat}, k ≤ a → a < k + n → (∀ b, k ≤ b → b < a → ∀ i, i ≤ s.length → endsF s f b i = false) → endsF s f a e = true → e ≤ s.length → (∀ i, i ≤ s.length → endsF s f a i = true → i ≤ e) → plainV s f n k = some (spSet (giveV s f a e spNone) 0 a e) := by
  intro n
  induction n with
  | zero => intro k a e h1 h2; omega
  | succ n ih =>
    intro k a e h1 h2 h3 h4 h5 h6
    simp only [plainV]
    rcases Nat.lt_or_ge k a with h | h
    · rw [maxOf_no fun i hi => h3 k (Nat.le_refl _) h i hi]
      exact ih (by omega) (by omega) (fun b hb => h3 b (by omega)) h4 h5 h6
    · obtain rfl : k = a := by omega
      rw [maxOf_top h4 h5 h6]
set_option maxRecDepth 3000 in
theorem plain_none {s : List UInt8} {f : Fr} : ∀ {n k : Nat}, (∀ b, k ≤ b → b < k + n → ∀ i, i ≤ s.length → endsF s f b i = false) → plainV s f n k = none := by
  intro n
  induction n with
  | zero => intro k _; rfl
  | succ n ih =>
    intro k h
    simp only [plainV]
    rw [maxOf_no fun i hi => h k (Nat.le_refl _) (by omega) i hi]
    exact ih fun b h1 h2 => h b (by omega) (by omega)
end Go.Proofs.YtnjagecmhdagkaaDoor

/-
  Matches: rows of letters and dots: what fits, place by place; what their matches are.
-/
namespace Go.Proofs.YtnjagecmhdagkaaDoor
open Go.RowKit

def fitBb (x : Atm) (s : List UInt8) (k : Nat) : Bool := decide (k < s.length) && (x.any || decide (x.c.toNat = bt s k))
set_option maxRecDepth 3000 in
theorem fitBb_iff {x : Atm} {s : List UInt8} {k : Nat} : fitBb x s k = true ↔ fitB x s k := by
  unfold fitBb fitB
  simp only [Bool.and_eq_true, Bool.or_eq_true, decide_eq_true_eq]
  exact Iff.rfl
/-- Which places are reached behind an atom. -/
def nxtV (x : Atm) (s : List UInt8) (now : Nat → Bool) : Nat → Bool
  | 0 => x.star && now 0
  | i + 1 => (x.star && now (i + 1)) || (fitBb x s i && (now i || (x.star && nxtV x s now i)))
def nowF (s : List UInt8) (l : List Atm) (now : Nat → Bool) : Nat → Bool := l.foldl (fun now x => nxtV x s now) now
def now0 : Nat → Bool := fun i => decide (i = 0)
/-- Do atoms fit all of a text? -/
def fitV (l : List Atm) (s : List UInt8) : Bool := nowF s l now0 s.length
set_option maxRecDepth 3000 in
theorem nxt_iff {x : Atm} {s : List UInt8} {now : Nat → Bool} : ∀ {i : Nat}, nxtV x s now i = true ↔ ∃ a, now a = true ∧ stepP x s a i := by
  intro i
  induction i with
  | zero =>
    unfold nxtV stepP
    cases hs : x.star with
    | true =>
      simp only [Bool.true_and, if_true]
      exact ⟨fun h => ⟨0, h, Nat.le_refl _, fun k h1 h2 => by omega⟩, fun ⟨a, h1, h2, _⟩ => by (obtain rfl : a = 0 := (by omega)); exact h1⟩
    | false =>
      simp only [Bool.false_and, Bool.false_eq_true, if_false, false_iff]
      rintro ⟨a, _, h, _⟩
      omega
  | succ i ih =>
    unfold nxtV
    simp only [Bool.or_eq_true, Bool.and_eq_true, ih, fitBb_iff]
    unfold stepP
    cases hs : x.star with
    | true =>
      simp only [if_true, true_and]
      constructor
      · rintro (h | ⟨h1, h2 | ⟨a, h2, h3, h4⟩⟩)
        · exact ⟨i + 1, h, Nat.le_refl _, fun k h1 h2 => by omega⟩
        · exact ⟨i, h2, by omega, fun k h3 h4 => by (obtain rfl : k = i := (by omega)); exact h1⟩
        · exact ⟨a, h2, by omega, fun k h5 h6 => by
            rcases Nat.lt_or_ge k i with h7 | h7
            · exact h4 k h5 h7
            · obtain rfl : k = i := by omega
              exact h1⟩
      · rintro ⟨a, h1, h2, h3⟩
        rcases Nat.lt_or_ge i a with h4 | h4
        · obtain rfl : a = i + 1 := by omega
          exact .inl h1
        · exact .inr ⟨h3 i h4 (by omega), .inr ⟨a, h1, h4, fun k h5 h6 => h3 k h5 (by omega)⟩⟩
    | false =>
      simp only [Bool.false_eq_true, if_false, false_and, or_false, false_or]
      constructor
      · rintro ⟨h1, h2⟩
        exact ⟨i, h2, rfl, h1⟩
      · rintro ⟨a, h1, h2, h3⟩
        obtain rfl : a = i := by omega
        exact ⟨h3, h1⟩
set_option maxRecDepth 3000 in
theorem now_iff {s : List UInt8} : ∀ {l : List Atm} {now : Nat → Bool} {i : Nat}, nowF s l now i = true ↔ ∃ a, now a = true ∧ FitP s l a i := by
  intro l
  induction l with
  | nil =>
    intro now i
    exact ⟨fun h => ⟨i, h, rfl⟩, fun ⟨a, h1, h2⟩ => by rw [show i = a from h2]; exact h1⟩
  | cons x l ih =>
    intro now i
    show nowF s l (nxtV x s now) i = true ↔ _
    rw [ih]
    constructor
    · rintro ⟨b, h1, h2⟩
      obtain ⟨a, h3, h4⟩ := nxt_iff.1 h1
      exact ⟨a, h3, b, h4, h2⟩
    · rintro ⟨a, h1, b, h2, h3⟩
      exact ⟨b, nxt_iff.2 ⟨a, h1, h2⟩, h3⟩
set_option maxRecDepth 3000 in
theorem fitV_iff {l : List Atm} {s : List UInt8} : fitV l s = true ↔ FitP s l 0 s.length := by
  unfold fitV
  rw [now_iff]
  constructor
  · rintro ⟨a, h1, h2⟩
    obtain rfl : a = 0 := by simpa [now0] using h1
    exact h2
  · intro h
    exact ⟨0, by simp [now0], h⟩
set_option maxRecDepth 3000 in
theorem bt_sub (s : List UInt8) (i n k : Nat) (hk : k < n) : bt ((s.drop i).take n) k = bt s (i + k) := by
  unfold bt
  rw [List.getD_eq_getElem?_getD, List.getD_eq_getElem?_getD, List.getElem?_take_of_lt hk, List.getElem?_drop]
set_option maxRecDepth 3000 in
theorem fitB_sub {x : Atm} {s : List UInt8} {i n k : Nat} (hk : k < n) (hn : i + n ≤ s.length) : fitB x ((s.drop i).take n) k ↔ fitB x s (i + k) := by
  unfold fitB
  have hl : ((s.drop i).take n).length = n := by rw [List.length_take, List.length_drop]; omega
  rw [hl, show ch ((s.drop i).take n) k = ch s (i + k) from bt_sub s i n k hk]
  exact and_congr_left fun _ => ⟨fun _ => by omega, fun _ => hk⟩
set_option maxRecDepth 3000 in
theorem fit_sub {s : List UInt8} {i n : Nat} (hn : i + n ≤ s.length) : ∀ {l : List Atm} {a b : Nat}, b ≤ n → (FitP ((s.drop i).take n) l a b ↔ FitP s l (i + a) (i + b)) := by
  intro l
  induction l with
  | nil => intro a b _; unfold FitP; omega
  | cons x l ih =>
    intro a b hb
    unfold FitP
    constructor
    · rintro ⟨j, h1, h2⟩
      have hj := h2.le.1
      refine ⟨i + j, ?_, (ih hb).1 h2⟩
      unfold stepP at h1 ⊢
      split at h1
      · rename_i hs
        rw [if_pos hs]
        refine ⟨by omega, fun k h3 h4 => ?_⟩
        have := (fitB_sub (by omega) hn).1 (h1.2 (k - i) (by omega) (by omega))
        rwa [show i + (k - i) = k by omega] at this
      · rename_i hs
        rw [if_neg hs]
        exact ⟨by omega, (fitB_sub (by omega) hn).1 h1.2⟩
    · rintro ⟨j, h1, h2⟩
      have hj := h2.le.1
      have hl := h1.le.1
      obtain ⟨j, rfl⟩ : ∃ j0, j = i + j0 := ⟨j - i, by omega⟩
      refine ⟨j, ?_, (ih hb).2 h2⟩
      unfold stepP at h1 ⊢
      split at h1
      · rename_i hs
        rw [if_pos hs]
        exact ⟨by omega, fun k h3 h4 => (fitB_sub (by omega) hn).2 (h1.2 (i + k) (by omega) (by omega))⟩
      · rename_i hs
        rw [if_neg hs]
        exact ⟨by omega, (fitB_sub (by omega) hn).2 h1.2⟩
set_option maxRecDepth 3000 in
theorem fit_at {s : List UInt8} {l : List Atm} {i j : Nat} (hij : i ≤ j) (hj : j ≤ s.length) : fitV l ((s.drop i).take (j - i)) = true ↔ FitP s l i j := by
  rw [fitV_iff]
  have hl : ((s.drop i).take (j - i)).length = j - i := by rw [List.length_take, List.length_drop]; omega
  rw [hl, fit_sub (by omega) (Nat.le_refl _)]
  rw [Nat.add_zero, show i + (j - i) = j by omega]
/-! ### what a pattern without references matches -/
set_option maxRecDepth 3000 in
theorem atR_plain {p s : List UInt8} {f : Fr} {t : PS} (h : patV p = some (f, t)) (hr : t.refs = false) (k : Nat) : atR p s k = if s.length < k then (spZero, false) else match plainV s f (s.length + 1 - k) k with
    | none => (spZero, false)
    | some g => (g, true) := by
  unfold atR
  rw [h]
  simp only []
  unfold matchR
  rw [hr]
  by_cases hk : s.length < k
  · rw [if_pos hk, if_pos (.inr (by omega))]
    simp
  · rw [if_neg hk, if_neg (by omega), Int.toNat_natCast]
    simp only [Bool.false_eq_true, if_false]
    cases plainV s f (s.length + 1 - k) k <;> simp
set_option maxRecDepth 3000 in
theorem spSet_0 {g : Spn} (hg : g.length = 20) (a b : Int) : (spSet g 0 a b).getD 0 0 = a ∧ (spSet g 0 a b).getD 1 0 = b ∧ ∀ i, 2 ≤ i → (spSet g 0 a b).getD i 0 = g.getD i 0 := by
  unfold spSet
  refine ⟨?_, ?_, fun i hi => ?_⟩
  · rw [List.getD_eq_getElem?_getD, List.getElem?_set_ne (by omega), List.getElem?_set_self (by omega)]; rfl
  · rw [List.getD_eq_getElem?_getD, List.getElem?_set_self (by rw [List.length_set]; omega)]; rfl
  · rw [List.getD_eq_getElem?_getD, List.getElem?_set_ne (by omega), List.getElem?_set_ne (by omega), ← List.getD_eq_getElem?_getD]
set_option maxRecDepth 3000 in
theorem at_some {p s : List UInt8} {f : Fr} {t : PS} (h : patV p = some (f, t)) (hr : t.refs = false) {k a e : Nat} (h1 : k ≤ a) (h2 : a ≤ s.length) (h3 : ∀ b, k ≤ b → b < a → ∀ i, i ≤ s.length → endsF s f b i = false) (h4 : endsF s f a e = true) (h5 : e ≤ s.length) (h6 : ∀ i, i ≤ s.length → endsF s f a i = true → i ≤ e) :
    atR p s k = (spSet (giveV s f a e spNone) 0 a e, true) := by
  rw [atR_plain h hr, if_neg (by omega), plain_some h1 (by omega) h3 h4 h5 h6]
set_option maxRecDepth 3000 in
theorem at_none {p s : List UInt8} {f : Fr} {t : PS} (h : patV p = some (f, t)) (hr : t.refs = false) {k : Nat} (h3 : ∀ b, k ≤ b → b ≤ s.length → ∀ i, i ≤ s.length → endsF s f b i = false) : atR p s k = (spZero, false) := by
  rw [atR_plain h hr]
  split
  · rfl
  · rw [plain_none fun b h1 h2 i hi => h3 b h1 (by omega) i hi]
/-! ### rows -/
set_option maxRecDepth 3000 in
theorem rowA_some {l : List Atm} (hl : PlainA l) (hp : partsA l ≤ 200) {s : List UInt8} {k a e : Nat} (h1 : k ≤ a) (h2 : a ≤ e) (h5 : e ≤ s.length) (h3 : ∀ b, k ≤ b → b < a → ∀ i, b ≤ i → i ≤ s.length → ¬ FitP s l b i) (h4 : FitP s l a e) (h6 : ∀ i, i ≤ s.length → e < i → ¬ FitP s l a i) :
    ∃ g, atR (patA l) s k = (g, true) ∧ g.getD 0 0 = (a : Int) ∧ g.getD 1 0 = (e : Int) := by
  have h := at_some (pat_A hl hp) rfl (s := s) (k := k) (a := a) (e := e) h1 (by omega) (fun b hb1 hb2 i hi => by
    rw [Bool.eq_false_iff]
    intro hf
    have := (ends_A (by omega)).1 hf
    exact h3 b hb1 hb2 i this.le.1 hi this) ((ends_A (by omega)).2 h4) h5 (fun i hi hf => by
    have := (ends_A (by omega)).1 hf
    rcases Nat.lt_or_ge e i with h | h
    · exact absurd this (h6 i hi h)
    · exact h)
  obtain ⟨q1, q2, _⟩ := spSet_0 (g := giveV s (frA l) a e spNone) (by rw [give_len]; rfl) a e
  exact ⟨_, h, q1, q2⟩
set_option maxRecDepth 3000 in
theorem rowA_none {l : List Atm} (hl : PlainA l) (hp : partsA l ≤ 200) {s : List UInt8} {k : Nat} (h3 : ∀ b, k ≤ b → ∀ i, b ≤ i → i ≤ s.length → ¬ FitP s l b i) : (atR (patA l) s k) = (spZero, false) :=
  at_none (pat_A hl hp) rfl fun b h1 h2 i hi => by
    rw [Bool.eq_false_iff]
    intro hf
    have := (ends_A h2).1 hf
    exact h3 b h1 i this.le.1 hi this
/-! ### letters alone -/
def litA (p : List UInt8) : List Atm := p.map fun c => ⟨c, false, false⟩
set_option maxRecDepth 3000 in
theorem patA_lit (p : List UInt8) : patA (litA p) = p := by
  induction p with
  | nil => rfl
  | cons c p ih => show oneA ⟨c, false, false⟩ ++ patA (litA p) = _; rw [ih]; rfl
set_option maxRecDepth 3000 in
theorem partsA_lit (p : List UInt8) : partsA (litA p) = p.length := by
  induction p with
  | nil => rfl
  | cons c p ih => show 1 + partsA (litA p) = _; rw [ih, List.length_cons]; omega
set_option maxRecDepth 3000 in
theorem fit_lit {s : List UInt8} : ∀ {p : List UInt8} {a b : Nat}, a ≤ s.length → (FitP s (litA p) a b ↔ b = a + p.length ∧ b ≤ s.length ∧ (s.drop a).take p.length = p) := by
  intro p
  induction p with
  | nil => intro a b ha; show b = a ↔ _; simp; omega
  | cons c p ih =>
    intro a b ha
    show (∃ i, stepP ⟨c, false, false⟩ s a i ∧ FitP s (litA p) i b) ↔ _
    unfold stepP fitB
    simp only [Bool.false_eq_true, if_false, false_or, List.length_cons]
    constructor
    · rintro ⟨i, ⟨rfl, h1, h2⟩, h3⟩
      obtain ⟨q1, q2, q3⟩ := (ih (by omega)).1 h3
      refine ⟨by omega, q2, ?_⟩
      rw [List.drop_eq_getElem_cons h1, List.take_succ_cons, q3]
      congr 1
      rw [← UInt8.toNat_inj, h2]
      exact (bt_get s a h1).symm
    · rintro ⟨q1, q2, q3⟩
      have h1 : a < s.length := by omega
      rw [List.drop_eq_getElem_cons h1, List.take_succ_cons] at q3
      injection q3 with q3 q4
      exact ⟨a + 1, ⟨rfl, h1, by rw [← q3]; exact (bt_get s a h1).symm⟩, (ih (by omega)).2 ⟨by omega, q2, q4⟩⟩
end Go.Proofs.YtnjagecmhdagkaaDoor
