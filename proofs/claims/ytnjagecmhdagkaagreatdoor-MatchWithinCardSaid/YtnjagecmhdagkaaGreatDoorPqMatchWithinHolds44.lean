/-
  Matches: groups' stretches lie within the match, in plain words.
-/
import Derived.Test.YtnjagecmhdagkaaGreatDoorPk36
import Derived.Test.YtnjagecmhdagkaaGreatDoorPqMatchWithinHolds43
import Derived.Test.YtnjagecmhdagkaaGreatDoorPk17
namespace Go.Proofs.YtnjagecmhdagkaaGreatDoor
open Go.RowKit

/-- Groups' numbers are from 1 up to N. -/
def AllG (N : Nat) : Fr → Prop
  | .nil => True
  | .cons x k r => (x.kind = 7 → 1 ≤ x.n ∧ x.n ≤ N) ∧ AllG N k ∧ AllG N r
set_option maxRecDepth 3000 in
theorem AllG.mono {N M : Nat} (h : N ≤ M) : ∀ {f : Fr}, AllG N f → AllG M f := by
  intro f
  induction f with
  | nil => intro _; trivial
  | cons x k r ihk ihr =>
    rintro ⟨h1, h2, h3⟩
    exact ⟨fun e => ⟨(h1 e).1, Nat.le_trans (h1 e).2 h⟩, ihk h2, ihr h3⟩
set_option maxRecDepth 3000 in
theorem GoodF.allG : ∀ {f : Fr} {s t : WS}, GoodF f s t → s.groups ≤ t.groups ∧ AllG t.groups f := by
  intro f
  induction f with
  | nil => intro s t h; rw [show t = s from h]; exact ⟨Nat.le_refl _, trivial⟩
  | cons x k r ihk ihr =>
    rintro s t ⟨m, h, hr⟩
    obtain ⟨r1, r2⟩ := ihr hr
    rcases h with ⟨h1, h2, h3, m1, h4, rfl⟩ | ⟨h1, h2, h3, h4, rfl, rfl⟩ | ⟨h1, h2, h3, h4, h5, h6, h7⟩ | ⟨h1, h2, rfl, rfl⟩
    · obtain ⟨q1, q2⟩ := ihk h4
      simp only [] at q1 r1
      exact ⟨by omega, fun _ => ⟨by omega, by omega⟩, q2.mono r1, r2⟩
    · exact ⟨r1, fun e => by omega, trivial, r2⟩
    · obtain ⟨q1, q2⟩ := ihk h7
      exact ⟨by omega, fun e => by omega, q2.mono r1, r2⟩
    · exact ⟨r1, fun e => by omega, trivial, r2⟩
set_option maxRecDepth 3000 in
theorem patV_groups {l : List UInt8} {y : Fr × PS} (h : patV l = some y) : AllG y.2.groups y.1 ∧ y.2.groups ≤ 9 := by
  obtain ⟨v, h1, h2, _⟩ := patV_good h
  have := h1.allG.2
  rw [h2] at this
  exact ⟨this, patV_nine h⟩
set_option maxRecDepth 3000 in
theorem sp_at {g : Spn} (hg : g.length = 20) {n k : Nat} (hn : n < 10) (hk : k < 10) (a b : Int) : spA (spSet g n a b) k = (if k = n then a else spA g k) ∧ spB (spSet g n a b) k = (if k = n then b else spB g k) := by
  unfold spA spB spSet
  by_cases h : k = n
  · subst h
    rw [if_pos rfl, if_pos rfl]
    constructor
    · rw [List.getD_eq_getElem?_getD, List.getElem?_set_ne (by omega), List.getElem?_set_self (by omega)]; rfl
    · rw [List.getD_eq_getElem?_getD, List.getElem?_set_self (by rw [List.length_set]; omega)]; rfl
  · rw [if_neg h, if_neg h]
    constructor
    · rw [List.getD_eq_getElem?_getD, List.getElem?_set_ne (by omega), List.getElem?_set_ne (by omega), ← List.getD_eq_getElem?_getD]
    · rw [List.getD_eq_getElem?_getD, List.getElem?_set_ne (by omega), List.getElem?_set_ne (by omega), ← List.getD_eq_getElem?_getD]
/-- Each group's stretch is none, or lies from lo up to hi; none has a greater number. -/
structure InW (lo hi : Int) (N : Nat) (g : Spn) : Prop where
  len : g.length = 20
  each : ∀ k, 1 ≤ k → k < 10 → (spA g k = -1 ∧ spB g k = -1) ∨ (k ≤ N ∧ lo ≤ spA g k ∧ spA g k ≤ spB g k ∧ spB g k ≤ hi)
section
variable {lo hi : Int} {N : Nat} {g : Spn}
set_option maxRecDepth 3000 in
theorem InW.set (h : InW lo hi N g) {n : Nat} (hn : n ≤ N) (hN : N ≤ 9) {a b : Int} (h1 : lo ≤ a) (h2 : a ≤ b) (h3 : b ≤ hi) : InW lo hi N (spSet g n a b) := by
  refine ⟨by rw [spSet_len]; exact h.len, fun k k1 k2 => ?_⟩
  obtain ⟨q1, q2⟩ := sp_at h.len (show n < 10 by omega) k2 a b
  rw [q1, q2]
  by_cases e : k = n
  · rw [if_pos e, if_pos e]; exact .inr ⟨by omega, h1, h2, h3⟩
  · rw [if_neg e, if_neg e]; exact h.each k k1 k2
set_option maxRecDepth 3000 in
theorem InW.none (h : InW lo hi N g) {n : Nat} (hn : n ≤ 9) : InW lo hi N (spSet g n (-1) (-1)) := by
  refine ⟨by rw [spSet_len]; exact h.len, fun k k1 k2 => ?_⟩
  obtain ⟨q1, q2⟩ := sp_at h.len (show n < 10 by omega) k2 (-1) (-1)
  rw [q1, q2]
  by_cases e : k = n
  · rw [if_pos e, if_pos e]; exact .inl ⟨rfl, rfl⟩
  · rw [if_neg e, if_neg e]; exact h.each k k1 k2
set_option maxRecDepth 3000 in
theorem InW.unset (hN : N ≤ 9) : ∀ {f : Fr} {g : Spn}, AllG N f → InW lo hi N g → InW lo hi N (unsetV f g) := by
  intro f
  induction f with
  | nil => intro g _ h; exact h
  | cons x k r ihk ihr =>
    rintro g ⟨h1, h2, h3⟩ h
    unfold unsetV
    refine ihr h3 (ihk h2 ?_)
    split
    · rename_i e
      exact h.none (by have := (h1 e).2; omega)
    · exact h
set_option maxRecDepth 3000 in
theorem loop_in (hN : N ≤ 9) {s : List UInt8} {x : NdV} {k : Fr} (hk : AllG N k) (ih : ∀ {a e : Nat} {g : Spn}, a ≤ e → e ≤ s.length → endsF s k a e = true → lo ≤ (a : Int) → (e : Int) ≤ hi → InW lo hi N g → InW lo hi N (giveV s k a e g)) :
    ∀ (F a e d : Nat) (g : Spn), a ≤ e → e ≤ s.length → turnsS s.length x (endsF s k) a d e = true → lo ≤ (a : Int) → (e : Int) ≤ hi → InW lo hi N g → InW lo hi N (turnLoop s.length x (endsF s k) (giveV s k) (unsetV k) F a e d g) := by
  intro F
  induction F with
  | zero => intro a e d g _ _ _ _ _ h; exact h
  | succ F ihF =>
    intro a e d g hae hen ht h1 h2 h
    unfold turnLoop
    split
    · rename_i hgo
      obtain ⟨q1, q2, q3, q4, _⟩ := loop_spec (endsF_rises s k) hae hen ht hgo
      exact ihF _ e (d + 1) _ q4 hen q2 (by omega) h2 (ih q3 (by omega) q1 h1 (by omega) (h.unset hN hk))
    · exact h
set_option maxRecDepth 3000 in
theorem give_in (hN : N ≤ 9) {s : List UInt8} : ∀ {f : Fr}, AllG N f → ∀ {a e : Nat} {g : Spn}, a ≤ e → e ≤ s.length → endsF s f a e = true → lo ≤ (a : Int) → (e : Int) ≤ hi → InW lo hi N g → InW lo hi N (giveV s f a e g) := by
  intro f
  induction f with
  | nil => intro _ a e g _ _ _ _ _ h; exact h
  | cons x k r ihk ihr =>
    rintro ⟨h1, h2, h3⟩ a e g hae hen he hl hh h
    unfold giveV
    obtain ⟨q1, q2, q3, q4⟩ := give_spec hae hen he
    generalize longF (nodeS s x (endsF s k) a) (fun q => endsF s r q e) a e = m at *
    refine ihr h3 q4 hen q2 (by omega) hh ?_
    unfold nodeS at q1
    unfold withinV
    split at q1
    · rename_i hk
      rw [if_pos hk]
      exact (ihk h2 q3 (by omega) q1 hl (by omega) h).set (h1 hk).2 hN hl (by omega) (by omega)
    · rename_i hk
      rw [if_neg hk]
      split at q1
      · rename_i hk8
        rw [if_pos hk8]
        exact loop_in hN h2 (ihk h2) _ a m 0 g q3 (by omega) q1 hl (by omega) h
      · rename_i hk8
        rw [if_neg hk8]
        exact h
end
set_option maxRecDepth 3000 in
theorem plain_is {s : List UInt8} {f : Fr} {g : Spn} : ∀ {n k : Nat}, k + n = s.length + 1 → plainV s f n k = some g → ∃ i j, k ≤ i ∧ i ≤ j ∧ j ≤ s.length ∧ endsF s f i j = true ∧ g = spSet (giveV s f i j spNone) 0 i j ∧ ∀ m, k ≤ m → m ≤ i → plainV s f (s.length + 1 - m) m = some g := by
  intro n
  induction n with
  | zero => intro k _ h; cases h
  | succ n ih =>
    intro k hk h
    have h0 := h
    simp only [plainV] at h
    split at h
    · rename_i e he
      injection h with h
      have hm : endsF s f k e = true ∧ e ≤ s.length := by
        have : ∀ n, maxOf (endsF s f k) n = some e → endsF s f k e = true ∧ e ≤ n := by
          intro n
          induction n with
          | zero =>
            intro h
            simp only [maxOf] at h
            split at h
            · rename_i hp
              injection h with h
              subst h
              exact ⟨hp, Nat.le_refl _⟩
            · cases h
          | succ n ih =>
            intro h
            simp only [maxOf] at h
            split at h
            · rename_i hp
              injection h with h
              subst h
              exact ⟨hp, Nat.le_refl _⟩
            · have := ih h; exact ⟨this.1, by omega⟩
        exact this _ he
      have hr := endsF_rises s f k e (by omega) hm.1
      refine ⟨k, e, Nat.le_refl _, hr.1, hm.2, hm.1, h.symm, fun m h1 h2 => ?_⟩
      obtain rfl : m = k := by omega
      rw [show s.length + 1 - m = n + 1 by omega]
      exact h0
    · obtain ⟨i, j, q1, q2, q3, q4, q5, q6⟩ := ih (by omega) h
      refine ⟨i, j, by omega, q2, q3, q4, q5, fun m h1 h2 => ?_⟩
      rcases Nat.lt_or_ge k m with h3 | h3
      · exact q6 m h3 h2
      · obtain rfl : m = k := by omega
        rw [show s.length + 1 - m = n + 1 by omega]
        exact h0
set_option maxRecDepth 3000 in
/-- What a match from a place on tells. -/
theorem match_in {p s : List UInt8} {f : Fr} {t : PS} (h : patV p = some (f, t)) (k fuel : Int) {g : Spn} {x : Int} (hm : matchR s f false k fuel = (g, true, x)) :
    x = 0 ∧ 0 ≤ k ∧ ∃ i j : Nat, g.getD 0 0 = (i : Int) ∧ g.getD 1 0 = (j : Int) ∧ k ≤ (i : Int) ∧ i ≤ j ∧ j ≤ s.length ∧ InW i j t.groups g ∧ ∀ m : Nat, k ≤ (m : Int) → m ≤ i → ∀ fuel, matchR s f false m fuel = (g, true, 0) := by
  unfold matchR at hm
  split at hm
  · simp at hm
  · rename_i hk
    simp only [Bool.false_eq_true, if_false] at hm
    split at hm
    · simp at hm
    · rename_i g2 hg
      simp only [Prod.mk.injEq, true_and] at hm
      obtain ⟨rfl, rfl⟩ := hm
      obtain ⟨i, j, q1, q2, q3, q4, q5, q6⟩ := plain_is (by omega) hg
      obtain ⟨a1, a2⟩ := patV_groups h
      have h0 : InW i j t.groups spNone := ⟨rfl, fun k k1 k2 => .inl (by
        have : ∀ k : Fin 10, spA spNone k = -1 ∧ spB spNone k = -1 := by decide
        exact this ⟨k, k2⟩)⟩
      have h1 := give_in a2 a1 q2 q3 q4 (Int.le_refl _) (Int.le_refl _) h0
      obtain ⟨r1, r2, r3⟩ := spSet_0 h1.len (i : Int) (j : Int)
      refine ⟨rfl, by omega, i, j, by rw [q5]; exact r1, by rw [q5]; exact r2, by omega, q2, q3, ?_, fun m m1 m2 fuel => ?_⟩
      · rw [q5]
        exact h1.set (Nat.zero_le _) a2 (Int.le_refl _) (by omega) (Int.le_refl _)
      · unfold matchR
        rw [if_neg (by omega)]
        simp only [Bool.false_eq_true, if_false, Int.toNat_natCast]
        rw [q6 m (by omega) m2]
end Go.Proofs.YtnjagecmhdagkaaGreatDoor
