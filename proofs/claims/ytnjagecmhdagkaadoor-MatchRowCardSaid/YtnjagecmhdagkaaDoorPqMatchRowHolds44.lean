/-
  Matches: rows of letters and dots: what fits, place by place; what their matches are.
-/
import Derived.Test.YtnjagecmhdagkaaDoorPqMatchRowHolds43
import Derived.Test.YtnjagecmhdagkaaDoorPk38
set_option linter.unusedSimpArgs false
set_option linter.unusedVariables false
namespace Go.Proofs.YtnjagecmhdagkaaDoor
open Go.RowKit

def fitBb (x : Atm) (s : List UInt8) (k : Nat) : Bool := decide (k < s.length) && (x.any || decide (x.c.toNat = bt s k))
set_option maxRecDepth 3000 in
theorem fitBb_iff {x : Atm} {s : List UInt8} {k : Nat} : fitBb x s k = true ↔ fitB x s k := by
  unfold fitBb fitB
  simp only [Bool.and_eq_true, Bool.or_eq_true, decide_eq_true_eq]
  exact Iff.rfl
/-- Which places are reached behind an atom. -/
def nxtV (x : Atm) (s : List UInt8) (now : Nat → Bool) : Nat → Bool
  | 0 => x.star && now 0
  | i + 1 => (x.star && now (i + 1)) || (fitBb x s i && (now i || (x.star && nxtV x s now i)))
def nowF (s : List UInt8) (l : List Atm) (now : Nat → Bool) : Nat → Bool := l.foldl (fun now x => nxtV x s now) now
def now0 : Nat → Bool := fun i => decide (i = 0)
/-- Do atoms fit all of a text? -/
def fitV (l : List Atm) (s : List UInt8) : Bool := nowF s l now0 s.length
set_option maxRecDepth 3000 in
theorem nxt_iff {x : Atm} {s : List UInt8} {now : Nat → Bool} : ∀ {i : Nat}, nxtV x s now i = true ↔ ∃ a, now a = true ∧ stepP x s a i := by
  intro i
  induction i with
  | zero =>
    unfold nxtV stepP
    cases hs : x.star with
    | true =>
      simp only [Bool.true_and, if_true]
      exact ⟨fun h => ⟨0, h, Nat.le_refl _, fun k h1 h2 => by omega⟩, fun ⟨a, h1, h2, _⟩ => by (obtain rfl : a = 0 := (by omega)); exact h1⟩
    | false =>
      simp only [Bool.false_and, Bool.false_eq_true, if_false, false_iff]
      rintro ⟨a, _, h, _⟩
      omega
  | succ i ih =>
    unfold nxtV
    simp only [Bool.or_eq_true, Bool.and_eq_true, ih, fitBb_iff]
    unfold stepP
    cases hs : x.star with
    | true =>
      simp only [if_true, true_and]
      constructor
      · rintro (h | ⟨h1, h2 | ⟨a, h2, h3, h4⟩⟩)
        · exact ⟨i + 1, h, Nat.le_refl _, fun k h1 h2 => by omega⟩
        · exact ⟨i, h2, by omega, fun k h3 h4 => by (obtain rfl : k = i := (by omega)); exact h1⟩
        · exact ⟨a, h2, by omega, fun k h5 h6 => by
            rcases Nat.lt_or_ge k i with h7 | h7
            · exact h4 k h5 h7
            · obtain rfl : k = i := by omega
              exact h1⟩
      · rintro ⟨a, h1, h2, h3⟩
        rcases Nat.lt_or_ge i a with h4 | h4
        · obtain rfl : a = i + 1 := by omega
          exact .inl h1
        · exact .inr ⟨h3 i h4 (by omega), .inr ⟨a, h1, h4, fun k h5 h6 => h3 k h5 (by omega)⟩⟩
    | false =>
      simp only [Bool.false_eq_true, if_false, false_and, or_false, false_or]
      constructor
      · rintro ⟨h1, h2⟩
        exact ⟨i, h2, rfl, h1⟩
      · rintro ⟨a, h1, h2, h3⟩
        obtain rfl : a = i := by omega
        exact ⟨h3, h1⟩
set_option maxRecDepth 3000 in
theorem now_iff {s : List UInt8} : ∀ {l : List Atm} {now : Nat → Bool} {i : Nat}, nowF s l now i = true ↔ ∃ a, now a = true ∧ FitP s l a i := by
  intro l
  induction l with
  | nil =>
    intro now i
    exact ⟨fun h => ⟨i, h, rfl⟩, fun ⟨a, h1, h2⟩ => by rw [show i = a from h2]; exact h1⟩
  | cons x l ih =>
    intro now i
    show nowF s l (nxtV x s now) i = true ↔ _
    rw [ih]
    constructor
    · rintro ⟨b, h1, h2⟩
      obtain ⟨a, h3, h4⟩ := nxt_iff.1 h1
      exact ⟨a, h3, b, h4, h2⟩
    · rintro ⟨a, h1, b, h2, h3⟩
      exact ⟨b, nxt_iff.2 ⟨a, h1, h2⟩, h3⟩
set_option maxRecDepth 3000 in
theorem fitV_iff {l : List Atm} {s : List UInt8} : fitV l s = true ↔ FitP s l 0 s.length := by
  unfold fitV
  rw [now_iff]
  constructor
  · rintro ⟨a, h1, h2⟩
    obtain rfl : a = 0 := by simpa [now0] using h1
    exact h2
  · intro h
    exact ⟨0, by simp [now0], h⟩
set_option maxRecDepth 3000 in
theorem bt_sub (s : List UInt8) (i n k : Nat) (hk : k < n) : bt ((s.drop i).take n) k = bt s (i + k) := by
  unfold bt
  rw [List.getD_eq_getElem?_getD, List.getD_eq_getElem?_getD, List.getElem?_take_of_lt hk, List.getElem?_drop]
set_option maxRecDepth 3000 in
theorem fitB_sub {x : Atm} {s : List UInt8} {i n k : Nat} (hk : k < n) (hn : i + n ≤ s.length) : fitB x ((s.drop i).take n) k ↔ fitB x s (i + k) := by
  unfold fitB
  have hl : ((s.drop i).take n).length = n := by rw [List.length_take, List.length_drop]; omega
  rw [hl, show ch ((s.drop i).take n) k = ch s (i + k) from bt_sub s i n k hk]
  exact and_congr_left fun _ => ⟨fun _ => by omega, fun _ => hk⟩
set_option maxRecDepth 3000 in
theorem fit_sub {s : List UInt8} {i n : Nat} (hn : i + n ≤ s.length) : ∀ {l : List Atm} {a b : Nat}, b ≤ n → (FitP ((s.drop i).take n) l a b ↔ FitP s l (i + a) (i + b)) := by
  intro l
  induction l with
  | nil => intro a b _; unfold FitP; omega
  | cons x l ih =>
    intro a b hb
    unfold FitP
    constructor
    · rintro ⟨j, h1, h2⟩
      have hj := h2.le.1
      refine ⟨i + j, ?_, (ih hb).1 h2⟩
      unfold stepP at h1 ⊢
      split at h1
      · rename_i hs
        rw [if_pos hs]
        refine ⟨by omega, fun k h3 h4 => ?_⟩
        have := (fitB_sub (by omega) hn).1 (h1.2 (k - i) (by omega) (by omega))
        rwa [show i + (k - i) = k by omega] at this
      · rename_i hs
        rw [if_neg hs]
        exact ⟨by omega, (fitB_sub (by omega) hn).1 h1.2⟩
    · rintro ⟨j, h1, h2⟩
      have hj := h2.le.1
      have hl := h1.le.1
      obtain ⟨j, rfl⟩ : ∃ j0, j = i + j0 := ⟨j - i, by omega⟩
      refine ⟨j, ?_, (ih hb).2 h2⟩
      unfold stepP at h1 ⊢
      split at h1
      · rename_i hs
        rw [if_pos hs]
        exact ⟨by omega, fun k h3 h4 => (fitB_sub (by omega) hn).2 (h1.2 (i + k) (by omega) (by omega))⟩
      · rename_i hs
        rw [if_neg hs]
        exact ⟨by omega, (fitB_sub (by omega) hn).2 h1.2⟩
set_option maxRecDepth 3000 in
theorem fit_at {s : List UInt8} {l : List Atm} {i j : Nat} (hij : i ≤ j) (hj : j ≤ s.length) : fitV l ((s.drop i).take (j - i)) = true ↔ FitP s l i j := by
  rw [fitV_iff]
  have hl : ((s.drop i).take (j - i)).length = j - i := by rw [List.length_take, List.length_drop]; omega
  rw [hl, fit_sub (by omega) (Nat.le_refl _)]
  rw [Nat.add_zero, show i + (j - i) = j by omega]
/-! ### what a pattern without references matches -/
set_option maxRecDepth 3000 in
theorem atR_plain {p s : List UInt8} {f : Fr} {t : PS} (h : patV p = some (f, t)) (hr : t.refs = false) (k : Nat) : atR p s k = if s.length < k then (spZero, false) else match plainV s f (s.length + 1 - k) k with
    | none => (spZero, false)
    | some g => (g, true) := by
  unfold atR
  rw [h]
  simp only []
  unfold matchR
  rw [hr]
  by_cases hk : s.length < k
  · rw [if_pos hk, if_pos (.inr (by omega))]
    simp
  · rw [if_neg hk, if_neg (by omega), Int.toNat_natCast]
    simp only [Bool.false_eq_true, if_false]
    cases plainV s f (s.length + 1 - k) k <;> simp
set_option maxRecDepth 3000 in
theorem spSet_0 {g : Spn} (hg : g.length = 20) (a b : Int) : (spSet g 0 a b).getD 0 0 = a ∧ (spSet g 0 a b).getD 1 0 = b ∧ ∀ i, 2 ≤ i → (spSet g 0 a b).getD i 0 = g.getD i 0 := by
  unfold spSet
  refine ⟨?_, ?_, fun i hi => ?_⟩
  · rw [List.getD_eq_getElem?_getD, List.getElem?_set_ne (by omega), List.getElem?_set_self (by omega)]; rfl
  · rw [List.getD_eq_getElem?_getD, List.getElem?_set_self (by rw [List.length_set]; omega)]; rfl
  · rw [List.getD_eq_getElem?_getD, List.getElem?_set_ne (by omega), List.getElem?_set_ne (by omega), ← List.getD_eq_getElem?_getD]
set_option maxRecDepth 3000 in
theorem at_some {p s : List UInt8} {f : Fr} {t : PS} (h : patV p = some (f, t)) (hr : t.refs = false) {k a e : Nat} (h1 : k ≤ a) (h2 : a ≤ s.length) (h3 : ∀ b, k ≤ b → b < a → ∀ i, i ≤ s.length → endsF s f b i = false) (h4 : endsF s f a e = true) (h5 : e ≤ s.length) (h6 : ∀ i, i ≤ s.length → endsF s f a i = true → i ≤ e) :
    atR p s k = (spSet (giveV s f a e spNone) 0 a e, true) := by
  rw [atR_plain h hr, if_neg (by omega), plain_some h1 (by omega) h3 h4 h5 h6]
set_option maxRecDepth 3000 in
theorem at_none {p s : List UInt8} {f : Fr} {t : PS} (h : patV p = some (f, t)) (hr : t.refs = false) {k : Nat} (h3 : ∀ b, k ≤ b → b ≤ s.length → ∀ i, i ≤ s.length → endsF s f b i = false) : atR p s k = (spZero, false) := by
  rw [atR_plain h hr]
  split
  · rfl
  · rw [plain_none fun b h1 h2 i hi => h3 b h1 (by omega) i hi]
/-! ### rows -/
set_option maxRecDepth 3000 in
theorem rowA_some {l : List Atm} (hl : PlainA l) (hp : partsA l ≤ 200) {s : List UInt8} {k a e : Nat} (h1 : k ≤ a) (h2 : a ≤ e) (h5 : e ≤ s.length) (h3 : ∀ b, k ≤ b → b < a → ∀ i, b ≤ i → i ≤ s.length → ¬ FitP s l b i) (h4 : FitP s l a e) (h6 : ∀ i, i ≤ s.length → e < i → ¬ FitP s l a i) :
    ∃ g, atR (patA l) s k = (g, true) ∧ g.getD 0 0 = (a : Int) ∧ g.getD 1 0 = (e : Int) := by
  have h := at_some (pat_A hl hp) rfl (s := s) (k := k) (a := a) (e := e) h1 (by omega) (fun b hb1 hb2 i hi => by
    rw [Bool.eq_false_iff]
    intro hf
    have := (ends_A (by omega)).1 hf
    exact h3 b hb1 hb2 i this.le.1 hi this) ((ends_A (by omega)).2 h4) h5 (fun i hi hf => by
    have := (ends_A (by omega)).1 hf
    rcases Nat.lt_or_ge e i with h | h
    · exact absurd this (h6 i hi h)
    · exact h)
  obtain ⟨q1, q2, _⟩ := spSet_0 (g := giveV s (frA l) a e spNone) (by rw [give_len]; rfl) a e
  exact ⟨_, h, q1, q2⟩
set_option maxRecDepth 3000 in
theorem rowA_none {l : List Atm} (hl : PlainA l) (hp : partsA l ≤ 200) {s : List UInt8} {k : Nat} (h3 : ∀ b, k ≤ b → ∀ i, b ≤ i → i ≤ s.length → ¬ FitP s l b i) : (atR (patA l) s k) = (spZero, false) :=
  at_none (pat_A hl hp) rfl fun b h1 h2 i hi => by
    rw [Bool.eq_false_iff]
    intro hf
    have := (ends_A h2).1 hf
    exact h3 b h1 i this.le.1 hi this
/-! ### letters alone -/
def litA (p : List UInt8) : List Atm := p.map fun c => ⟨c, false, false⟩
set_option maxRecDepth 3000 in
theorem patA_lit (p : List UInt8) : patA (litA p) = p := by
  induction p with
  | nil => rfl
  | cons c p ih => show oneA ⟨c, false, false⟩ ++ patA (litA p) = _; rw [ih]; rfl
set_option maxRecDepth 3000 in
theorem partsA_lit (p : List UInt8) : partsA (litA p) = p.length := by
  induction p with
  | nil => rfl
  | cons c p ih => show 1 + partsA (litA p) = _; rw [ih, List.length_cons]; omega
set_option maxRecDepth 3000 in
theorem fit_lit {s : List UInt8} : ∀ {p : List UInt8} {a b : Nat}, a ≤ s.length → (FitP s (litA p) a b ↔ b = a + p.length ∧ b ≤ s.length ∧ (s.drop a).take p.length = p) := by
  intro p
  induction p with
  | nil => intro a b ha; show b = a ↔ _; simp; omega
  | cons c p ih =>
    intro a b ha
    show (∃ i, stepP ⟨c, false, false⟩ s a i ∧ FitP s (litA p) i b) ↔ _
    unfold stepP fitB
    simp only [Bool.false_eq_true, if_false, false_or, List.length_cons]
    constructor
    · rintro ⟨i, ⟨rfl, h1, h2⟩, h3⟩
      obtain ⟨q1, q2, q3⟩ := (ih (by omega)).1 h3
      refine ⟨by omega, q2, ?_⟩
      rw [List.drop_eq_getElem_cons h1, List.take_succ_cons, q3]
      congr 1
      rw [← UInt8.toNat_inj, h2]
      exact (bt_get s a h1).symm
    · rintro ⟨q1, q2, q3⟩
      have h1 : a < s.length := by omega
      rw [List.drop_eq_getElem_cons h1, List.take_succ_cons] at q3
      injection q3 with q3 q4
      exact ⟨a + 1, ⟨rfl, h1, by rw [← q3]; exact (bt_get s a h1).symm⟩, (ih (by omega)).2 ⟨by omega, q2, q4⟩⟩
end Go.Proofs.YtnjagecmhdagkaaDoor
