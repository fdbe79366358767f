/-
  Matches: two groups of rows and a row behind them, in plain words.
-/
import Derived.Test.YtnjagecmhdagkaaDoorPk43
set_option linter.unusedSimpArgs false
set_option linter.unusedVariables false
namespace Go.Proofs.YtnjagecmhdagkaaDoor
open Go.RowKit

set_option maxRecDepth 3000 in
theorem atR_plain_len {p s : List UInt8} {f : Fr} {t : PS} (h : patV p = some (f, t)) (hr : t.refs = false) (k : Nat) : (atR p s k).1.length = 20 := by
  rw [atR_plain h hr]
  split
  · rfl
  · split
    · rfl
    · rename_i g hg
      exact plain_len hg
set_option maxRecDepth 3000 in
theorem loop_same {n : Nat} {x : NdV} {R : Nat → Pl} {G : Nat → Nat → Spn → Spn} {U : Spn → Spn} (hG : ∀ a e g, G a e g = g) (hU : ∀ g, U g = g) : ∀ (f a e d : Nat) (g : Spn), turnLoop n x R G U f a e d g = g := by
  intro f
  induction f with
  | zero => intro a e d g; rfl
  | succ f ih =>
    intro a e d g
    unfold turnLoop
    split
    · rw [ih, hG, hU]
    · rfl
set_option maxRecDepth 3000 in
theorem within_leaf {s : List UInt8} {x : Atm} {k : Fr} {G : Nat → Nat → Spn → Spn} {a e : Nat} {g : Spn} : withinV s (leafA x) k G a e g = g := by
  have hk := leafA_kind x
  unfold withinV
  rw [if_neg (by omega), if_neg (by omega)]
set_option maxRecDepth 3000 in
/-- Rows of letters and dots have no groups. -/
theorem give_A {s : List UInt8} : ∀ {l : List Atm} {a e : Nat} {g : Spn}, giveV s (frA l) a e g = g := by
  intro l
  induction l with
  | nil => intro a e g; rfl
  | cons x l ih =>
    intro a e g
    unfold frA
    cases hs : x.star with
    | true =>
      simp only [if_true, giveV]
      rw [ih]
      unfold withinV
      rw [if_neg (by simp [timesN, ndK]), if_pos (show (timesN 0 (-1)).kind = 8 from rfl)]
      refine loop_same (fun a e g => ?_) (fun g => ?_) _ _ _ _ _
      · simp only [Fr.one, giveV]
        exact within_leaf
      · have hk := leafA_kind x
        simp only [Fr.one, unsetV]
        rw [if_neg (by omega)]
    | false =>
      simp only [Bool.false_eq_true, if_false, giveV]
      rw [ih]
      exact within_leaf
set_option maxRecDepth 3000 in
theorem node_group {s : List UInt8} {n : Nat} {R : Nat → Pl} {a : Nat} : nodeS s (groupN n) R a = R a := by
  unfold nodeS
  rw [if_pos (show (groupN n).kind = 7 from rfl)]
set_option maxRecDepth 3000 in
/-- Where the pattern of two groups may end. -/
theorem ends_G {s : List UInt8} {a b c : List Atm} {i j : Nat} (hi : i ≤ s.length) : endsF s (frG2 a b c) i j = true ↔ FitP s (a ++ (b ++ c)) i j := by
  unfold frG2
  rw [endsF_cons hi]
  simp only [node_group, FitP.append]
  constructor
  · rintro ⟨x, hx, h1, h2⟩
    rw [endsF_cons hx] at h2
    simp only [node_group] at h2
    obtain ⟨y, hy, h3, h4⟩ := h2
    exact ⟨x, (ends_A hi).1 h1, y, (ends_A hx).1 h3, (ends_A hy).1 h4⟩
  · rintro ⟨x, h1, y, h3, h4⟩
    have hx := h1.le.2 hi
    have hy := h3.le.2 hx
    refine ⟨x, hx, (ends_A hi).2 h1, ?_⟩
    rw [endsF_cons hx]
    simp only [node_group]
    exact ⟨y, hy, (ends_A hx).2 h3, (ends_A hy).2 h4⟩
set_option maxRecDepth 3000 in
theorem ends_G2 {s : List UInt8} {b c : List Atm} {i j : Nat} (hi : i ≤ s.length) : endsF s (.cons (groupN 2) (frA b) (frA c)) i j = true ↔ ∃ y, FitP s b i y ∧ FitP s c y j := by
  rw [endsF_cons hi]
  simp only [node_group]
  constructor
  · rintro ⟨y, hy, h3, h4⟩
    exact ⟨y, (ends_A hi).1 h3, (ends_A hy).1 h4⟩
  · rintro ⟨y, h3, h4⟩
    have hy := h3.le.2 hi
    exact ⟨y, hy, (ends_A hi).2 h3, (ends_A hy).2 h4⟩
set_option maxRecDepth 3000 in
/-- The stretches: the first group is as long as may be, then the second one. -/
theorem give_G {s : List UInt8} {a b c : List Atm} {i j x y : Nat} (hj : j ≤ s.length) (h1 : FitP s a i x) (h2 : FitP s b x y) (h3 : FitP s c y j)
    (h4 : ∀ x2 y2, x < x2 → x2 ≤ j → y2 ≤ j → FitP s a i x2 → FitP s b x2 y2 → ¬ FitP s c y2 j) (h5 : ∀ y2, y < y2 → y2 ≤ j → FitP s b x y2 → ¬ FitP s c y2 j) (g : Spn) :
    giveV s (frG2 a b c) i j g = spSet (spSet g 1 i x) 2 x y := by
  have hix := h1.le.1
  have hxy := h2.le.1
  have hyj := h3.le.1
  have e1 : longF (nodeS s (groupN 1) (endsF s (frA a)) i) (fun q => endsF s (.cons (groupN 2) (frA b) (frA c)) q j) i j = x := by
    obtain ⟨q1, q2, q3, q4, q5⟩ := longF_spec (nodeS s (groupN 1) (endsF s (frA a)) i) (fun q => endsF s (.cons (groupN 2) (frA b) (frA c)) q j) i j ⟨x, hix, by omega, by rw [node_group]; exact (ends_A (by omega)).2 h1, (ends_G2 (by omega)).2 ⟨y, h2, h3⟩⟩
    have q6 := q5 x (by omega) (by rw [node_group]; exact (ends_A (by omega)).2 h1) ((ends_G2 (by omega)).2 ⟨y, h2, h3⟩)
    rw [node_group] at q1
    rcases Nat.lt_or_ge x (longF (nodeS s (groupN 1) (endsF s (frA a)) i) (fun q => endsF s (.cons (groupN 2) (frA b) (frA c)) q j) i j) with h | h
    · obtain ⟨y2, r1, r2⟩ := (ends_G2 (by omega)).1 q2
      have := r2.le.1
      exact absurd r2 (h4 _ y2 h q4 this ((ends_A (by omega)).1 q1) r1)
    · omega
  have e2 : longF (nodeS s (groupN 2) (endsF s (frA b)) x) (fun q => endsF s (frA c) q j) x j = y := by
    obtain ⟨q1, q2, q3, q4, q5⟩ := longF_spec (nodeS s (groupN 2) (endsF s (frA b)) x) (fun q => endsF s (frA c) q j) x j ⟨y, hxy, by omega, by rw [node_group]; exact (ends_A (by omega)).2 h2, (ends_A (by omega)).2 h3⟩
    have q6 := q5 y (by omega) (by rw [node_group]; exact (ends_A (by omega)).2 h2) ((ends_A (by omega)).2 h3)
    rw [node_group] at q1
    rcases Nat.lt_or_ge y (longF (nodeS s (groupN 2) (endsF s (frA b)) x) (fun q => endsF s (frA c) q j) x j) with h | h
    · exact absurd ((ends_A (by omega)).1 q2) (h5 _ h q4 ((ends_A (by omega)).1 q1))
    · omega
  unfold frG2
  rw [giveV, e1, giveV, e2, give_A]
  unfold withinV
  rw [if_pos (show (groupN 1).kind = 7 from rfl), if_pos (show (groupN 2).kind = 7 from rfl), give_A, give_A]
  rfl
set_option maxRecDepth 3000 in
/-- What matches, matches with the stretches told. -/
theorem grp_some {a b c : List Atm} (ha : PlainA a) (hb : PlainA b) (hc : PlainA c) (hp : 2 + partsA a + partsA b + partsA c ≤ 200) {s : List UInt8} {i j x y : Nat} (hj : j ≤ s.length)
    (hmin : ∀ k, k < i → ∀ e, e ≤ s.length → ¬ FitP s (a ++ (b ++ c)) k e) (hmax : ∀ e, j < e → e ≤ s.length → ¬ FitP s (a ++ (b ++ c)) i e)
    (h1 : FitP s a i x) (h2 : FitP s b x y) (h3 : FitP s c y j)
    (h4 : ∀ x2 y2, x < x2 → x2 ≤ j → y2 ≤ j → FitP s a i x2 → FitP s b x2 y2 → ¬ FitP s c y2 j) (h5 : ∀ y2, y < y2 → y2 ≤ j → FitP s b x y2 → ¬ FitP s c y2 j) :
    ∃ g, atR (patG a b c) s 0 = (g, true) ∧ g.getD 0 0 = (i : Int) ∧ g.getD 1 0 = (j : Int) ∧ g.getD 2 0 = (i : Int) ∧ g.getD 3 0 = (x : Int) ∧ g.getD 4 0 = (x : Int) ∧ g.getD 5 0 = (y : Int) := by
  have hix := h1.le.1
  have hxy := h2.le.1
  have hyj := h3.le.1
  have h := at_some (pat_G ha hb hc hp) rfl (s := s) (k := 0) (a := i) (e := j) (by omega) (by omega) (fun k _ hk e he => by
    rw [Bool.eq_false_iff]
    intro hf
    exact hmin k hk e he ((ends_G (by omega)).1 hf)) ((ends_G (by omega)).2 (FitP.append.2 ⟨x, h1, FitP.append.2 ⟨y, h2, h3⟩⟩)) hj (fun e he hf => by
    rcases Nat.lt_or_ge j e with h | h
    · exact absurd ((ends_G (by omega)).1 hf) (hmax e h he)
    · exact h)
  rw [give_G hj h1 h2 h3 h4 h5] at h
  exact ⟨_, h, rfl, rfl, rfl, rfl, rfl, rfl⟩
set_option maxRecDepth 3000 in
/-- The match itself: that of all three rows. -/
theorem grp_first {a b c : List Atm} (ha : PlainA a) (hb : PlainA b) (hc : PlainA c) (hp : 2 + partsA a + partsA b + partsA c ≤ 200) {s : List UInt8} {i j : Nat} (hi : i ≤ s.length) (hj : j ≤ s.length)
    (hmin : ∀ k, k < i → ∀ e, e ≤ s.length → ¬ FitP s (a ++ (b ++ c)) k e) (hmax : ∀ e, j < e → e ≤ s.length → ¬ FitP s (a ++ (b ++ c)) i e) (h : FitP s (a ++ (b ++ c)) i j) :
    ∃ g, atR (patG a b c) s 0 = (g, true) ∧ g.getD 0 0 = (i : Int) ∧ g.getD 1 0 = (j : Int) := by
  have h := at_some (pat_G ha hb hc hp) rfl (s := s) (k := 0) (a := i) (e := j) (by omega) hi (fun k _ hk e he => by
    rw [Bool.eq_false_iff]
    intro hf
    exact hmin k hk e he ((ends_G (by omega)).1 hf)) ((ends_G hi).2 h) hj (fun e he hf => by
    rcases Nat.lt_or_ge j e with h | h
    · exact absurd ((ends_G hi).1 hf) (hmax e h he)
    · exact h)
  obtain ⟨q1, q2, _⟩ := spSet_0 (g := giveV s (frG2 a b c) i j spNone) (by rw [give_len]; rfl) i j
  exact ⟨_, h, q1, q2⟩
set_option maxRecDepth 3000 in
theorem least_of {P : Nat → Prop} : ∀ {n : Nat}, P n → ∃ m, m ≤ n ∧ P m ∧ ∀ k, k < m → ¬ P k := by
  intro n
  induction n using Nat.strongRecOn with
  | ind n ih =>
    intro h
    by_cases hk : ∃ k, k < n ∧ P k
    · obtain ⟨k, h1, h2⟩ := hk
      obtain ⟨m, q1, q2, q3⟩ := ih k h1 h2
      exact ⟨m, by omega, q2, q3⟩
    · exact ⟨n, Nat.le_refl _, h, fun k h1 h2 => hk ⟨k, h1, h2⟩⟩
set_option maxRecDepth 3000 in
/-- The least place, and there the longest stretch. -/
theorem found_of {s : List UInt8} {l : List Atm} (h : ∃ k e, k ≤ s.length ∧ e ≤ s.length ∧ FitP s l k e) : ∃ i j, i ≤ j ∧ j ≤ s.length ∧ FitP s l i j ∧ (∀ k, k < i → ∀ e, e ≤ s.length → ¬ FitP s l k e) ∧ ∀ e, j < e → e ≤ s.length → ¬ FitP s l i e := by
  obtain ⟨k, e, h1, h2, h3⟩ := h
  obtain ⟨i, q1, ⟨e2, q2, q3⟩, q4⟩ := least_of (P := fun k => ∃ e, e ≤ s.length ∧ FitP s l k e) (n := k) ⟨e, h2, h3⟩
  obtain ⟨d, r1, ⟨r2, r3⟩, r4⟩ := least_of (P := fun d => d ≤ s.length ∧ FitP s l i (s.length - d)) (n := s.length - e2) ⟨by omega, by rw [show s.length - (s.length - e2) = e2 by omega]; exact q3⟩
  refine ⟨i, s.length - d, r3.le.1, by omega, r3, fun k hk e he hf => q4 k hk ⟨e, he, hf⟩, fun e h4 h5 h6 => r4 (s.length - e) (by omega) ⟨by omega, by rw [show s.length - (s.length - e) = e by omega]; exact h6⟩⟩
set_option maxRecDepth 3000 in
theorem grp_none {a b c : List Atm} (ha : PlainA a) (hb : PlainA b) (hc : PlainA c) (hp : 2 + partsA a + partsA b + partsA c ≤ 200) {s : List UInt8} (h : ∀ k e, e ≤ s.length → ¬ FitP s (a ++ (b ++ c)) k e) : atR (patG a b c) s 0 = (spZero, false) :=
  at_none (pat_G ha hb hc hp) rfl (k := 0) fun b _ hb i hi => by
    rw [Bool.eq_false_iff]
    intro hf
    exact h b i hi ((ends_G hb).1 hf)
end Go.Proofs.YtnjagecmhdagkaaDoor
