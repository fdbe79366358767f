/-
  Classes: what stands behind an expression makes no difference to it.
-/
import Derived.Test.YtpignlkojlbhkaaDoorPk15
namespace Go.Proofs.YtpignlkojlbhkaaDoor
open Go.RowKit

set_option maxRecDepth 3000 in
theorem cutV_swap {s : List UInt8} {x : List UInt8 × List UInt8} (h : cutV s = some x) (r' : List UInt8) : cutV (x.1 ++ 58 :: 93 :: r') = some (x.1, r') := by
  induction s generalizing x with
  | nil => simp [cutV] at h
  | cons a s ih =>
    unfold cutV at h
    split at h
    · injection h with h
      subst h
      simp [cutV]
    · rename_i hc
      rw [Option.map_eq_some_iff] at h
      obtain ⟨y, hy, rfl⟩ := h
      have h1 := ih hy
      have h2 := cutV_split hy
      have hh : ¬(a = 58 ∧ (y.1 ++ 58 :: 93 :: r').head? = some 93) := by
        rintro ⟨h3, h4⟩
        refine hc ⟨h3, ?_⟩
        rw [h2]
        cases hy1 : y.1 with
        | nil => rw [hy1] at h4; simp at h4
        | cons b l => rw [hy1] at h4; simpa using h4
      simp only [List.cons_append]
      conv => lhs; unfold cutV
      rw [if_neg hh, h1]; rfl
set_option maxRecDepth 3000 in
/-- The bytes up to the ']' are the same. -/
theorem swap_bt (u v v' : List UInt8) (k : Nat) (hk : k ≤ u.length) : bt (u ++ 93 :: v') k = bt (u ++ 93 :: v) k := by
  rcases Nat.lt_or_ge k u.length with h | h
  · rw [bt_append_left _ _ _ h, bt_append_left _ _ _ h]
  · obtain rfl : k = u.length := by omega
    rw [bt_append_right _ _ _ (Nat.le_refl _), bt_append_right _ _ _ (Nat.le_refl _)]
    simp
set_option maxRecDepth 3000 in
theorem kind_swap (u v v' : List UInt8) (k : Nat) (hk : k + 1 ≤ u.length) : kindN ((u ++ 93 :: v').drop k) = kindN ((u ++ 93 :: v).drop k) := by
  have h1 : ∀ w : List UInt8, (1 < ((u ++ 93 :: w).drop k).length) ↔ True := fun w => by simp; omega
  unfold kindN
  simp only [h1, bt_drop, Nat.add_zero, swap_bt u v v' k (by omega), swap_bt u v v' (k + 1) hk]
set_option maxRecDepth 3000 in
theorem bt_end (u v : List UInt8) : bt (u ++ 93 :: v) u.length = 93 := by
  rw [bt_append_right _ _ _ (Nat.le_refl _)]; simp
set_option maxRecDepth 3000 in
theorem partV_swap (u v v' : List UInt8) {x : (Int → Bool) × List UInt8} (h : partV (u ++ 93 :: v) = some x) (hx : v.length < x.2.length) :
    ∃ n, 1 ≤ n ∧ n ≤ u.length ∧ x.2 = u.drop n ++ 93 :: v ∧ partV (u ++ 93 :: v') = some (x.1, u.drop n ++ 93 :: v') := by
  have hlen := partV_len h
  have hu : 1 ≤ u.length := by simp at hlen; omega
  have hne : ∀ w : List UInt8, u ++ 93 :: w ≠ [] := fun w => by simp
  have dr : ∀ (n : Nat) (w : List UInt8), n ≤ u.length → (u ++ 93 :: w).drop n = u.drop n ++ 93 :: w := fun n w hn => by rw [List.drop_append_of_le_length hn]
  have hk0 := kind_swap u v v' 0 (by omega)
  simp only [List.drop_zero] at hk0
  unfold partV at h ⊢
  rw [if_neg (hne _)] at h
  rw [if_neg (hne _), hk0]
  split at h
  · rename_i hk
    rw [if_pos hk]
    rw [Option.bind_eq_some_iff] at h
    obtain ⟨c, hc, h⟩ := h
    rw [Option.map_eq_some_iff] at h
    obtain ⟨y, hy, rfl⟩ := h
    have h1 := cutV_split hc
    have h2 := cutV_len hc
    simp only [] at hx
    simp only [List.length_drop, List.length_append, List.length_cons] at h2
    have hn : c.1.length + 4 ≤ u.length := by omega
    rw [dr 2 v (by omega)] at h1 hc
    have e1 : u.drop 2 = c.1 ++ 58 :: 93 :: u.drop (c.1.length + 4) ∧ c.2 = u.drop (c.1.length + 4) ++ 93 :: v := by
      have h3 : c.1 ++ 58 :: 93 :: c.2 = (c.1 ++ [58, 93]) ++ c.2 := by simp
      rw [h3] at h1
      have h4 := congrArg (List.take (c.1.length + 2)) h1
      have h5 := congrArg (List.drop (c.1.length + 2)) h1
      rw [List.take_append_of_le_length (by simp; omega), List.take_append_of_le_length (by simp), List.take_of_length_le (l := c.1 ++ [58, 93]) (by simp)] at h4
      rw [List.drop_append_of_le_length (by simp; omega), List.drop_left' (by simp), List.drop_drop] at h5
      rw [show 2 + (c.1.length + 2) = c.1.length + 4 by omega] at h5
      refine ⟨?_, h5.symm⟩
      conv => lhs; rw [← List.take_append_drop (c.1.length + 2) (u.drop 2), h4, List.drop_drop, show 2 + (c.1.length + 2) = c.1.length + 4 by omega]
      simp
    refine ⟨c.1.length + 4, by omega, hn, e1.2, ?_⟩
    rw [dr 2 v' (by omega), e1.1]
    have h6 := cutV_swap hc (u.drop (c.1.length + 4) ++ 93 :: v')
    rw [show c.1 ++ 58 :: 93 :: u.drop (c.1.length + 4) ++ 93 :: v' = c.1 ++ 58 :: 93 :: (u.drop (c.1.length + 4) ++ 93 :: v') by simp, h6]
    simp [hy]
  · rename_i hk
    rw [if_neg hk]
    split at h
    · cases h
    · rename_i hk2
      rw [if_neg hk2]
      have b0 := swap_bt u v v' 0 (by omega)
      have b1 := swap_bt u v v' 1 (by omega)
      by_cases hd : bt (u ++ 93 :: v) 1 = 45
      · have hu2 : 2 ≤ u.length := by
          rcases Nat.lt_or_ge u.length 2 with h9 | h9
          · exfalso
            have := bt_end u v
            rw [show u.length = 1 by omega, hd] at this
            omega
          · exact h9
        have b2 := swap_bt u v v' 2 hu2
        have l1 : ∀ w : List UInt8, (2 < (u ++ 93 :: w).length) ↔ True := fun w => by simp; omega
        simp only [l1, true_and, b0, b1, b2] at h ⊢
        split at h
        · rename_i h3
          rw [if_pos h3]
          split at h
          · rename_i h4
            injection h with h
            subst h
            simp only [List.length_drop, List.length_append, List.length_cons] at hx
            have hu3 : 3 ≤ u.length := by omega
            rw [kind_swap u v v' 2 (by omega), if_pos h4, dr 3 v hu3, dr 3 v' hu3]
            exact ⟨3, by omega, hu3, rfl, rfl⟩
          · cases h
        · rename_i h3
          rw [if_neg h3]
          injection h with h
          subst h
          rw [dr 1 v hu, dr 1 v' hu]
          exact ⟨1, by omega, hu, rfl, rfl⟩
      · rw [if_neg (fun h => hd h.2.1)] at h
        rw [if_neg (fun h => hd (by rw [← b1]; exact h.2.1))]
        injection h with h
        subst h
        rw [dr 1 v hu, dr 1 v' hu, b0]
        exact ⟨1, by omega, hu, rfl, rfl⟩
set_option maxRecDepth 3000 in
theorem partV_rest' {t : List UInt8} {x : (Int → Bool) × List UInt8} (h : partV t = some x) : ∃ n, 1 ≤ n ∧ x.2 = t.drop n := by
  unfold partV at h
  split at h
  · cases h
  split at h
  · rw [Option.bind_eq_some_iff] at h
    obtain ⟨c, hc, h⟩ := h
    rw [Option.map_eq_some_iff] at h
    obtain ⟨y, _, rfl⟩ := h
    have h1 := cutV_split hc
    refine ⟨2 + (c.1.length + 2), by omega, ?_⟩
    rw [← List.drop_drop, h1, ← List.drop_drop]
    simp
  split at h
  · cases h
  split at h
  · split at h
    · injection h with h; subst h; exact ⟨3, by omega, rfl⟩
    · cases h
  · injection h with h; subst h; exact ⟨1, by omega, rfl⟩
set_option maxRecDepth 3000 in
theorem loopF_split {first : Bool} {p : Nat → Bool} {s : List UInt8} {x : (Nat → Bool) × List UInt8} (h : loopF first p s = some x) : ∃ u v, s = u ++ 93 :: v ∧ x.2 = 93 :: v ∧ (first = true → 1 ≤ u.length) := by
  have key : ∀ (n : Nat) (first : Bool) (p : Nat → Bool) (s : List UInt8) (x : (Nat → Bool) × List UInt8), s.length ≤ n → loopF first p s = some x → ∃ u v, s = u ++ 93 :: v ∧ x.2 = 93 :: v ∧ (first = true → 1 ≤ u.length) := by
    intro n
    induction n with
    | zero =>
      intro f p s x hn h
      have hs : s = [] := List.eq_nil_of_length_eq_zero (by omega)
      subst hs
      rw [loopF_none (by simp) (by simp [partV])] at h
      cases h
    | succ n ih =>
      intro f p s x hn h
      rw [loopF_eq] at h
      split at h
      · rename_i hc
        injection h with h
        subst h
        cases s with
        | nil => simp at hc
        | cons a s =>
          obtain ⟨rfl, hc⟩ := hc
          simp at hc
          subst hc
          exact ⟨[], s, rfl, rfl, by simp⟩
      · rw [Option.bind_eq_some_iff] at h
        obtain ⟨y, hy, h⟩ := h
        have hl := partV_len hy
        obtain ⟨u, v, h1, h2, -⟩ := ih false _ y.2 x (by omega) h
        obtain ⟨k, hk, h3⟩ : ∃ k, 1 ≤ k ∧ s = s.take k ++ y.2 := by
          obtain ⟨k, hk, h3⟩ := partV_rest' hy
          exact ⟨k, hk, by rw [h3, List.take_append_drop]⟩
        refine ⟨s.take k ++ u, v, by rw [List.append_assoc, ← h1]; exact h3, h2, fun _ => ?_⟩
        have : 0 < s.length := by omega
        simp; omega
  exact key _ _ _ _ _ (Nat.le_refl _) h
set_option maxRecDepth 3000 in
theorem loopF_swap : ∀ (n : Nat) (u : List UInt8), u.length ≤ n → ∀ (first : Bool) (p q : Nat → Bool) (v v' : List UInt8), loopF first p (u ++ 93 :: v) = some (q, 93 :: v) → loopF first p (u ++ 93 :: v') = some (q, 93 :: v') := by
  intro n
  induction n with
  | zero =>
    intro u hu f p q v v' h
    have : u = [] := List.eq_nil_of_length_eq_zero (by omega)
    subst this
    cases f with
    | false =>
      rw [loopF_end _ _ rfl] at h ⊢
      simp only [Option.some.injEq, Prod.mk.injEq] at h ⊢
      exact ⟨h.1, rfl⟩
    | true =>
      exfalso
      obtain ⟨u, v2, h1, h2, h3⟩ := loopF_split h
      have e1 := congrArg List.length h1
      have e2 := congrArg List.length h2
      have e3 := h3 rfl
      rw [List.nil_append, List.length_append, List.length_cons, List.length_cons] at e1
      have e4 : (93 :: v).length = (93 :: v2).length := e2
      rw [List.length_cons, List.length_cons] at e4
      omega
  | succ n ih =>
    intro u hu f p q v v' h
    rcases Nat.lt_or_ge u.length (n + 1) with hl | hl
    · exact ih u (by omega) f p q v v' h
    · have hn1 : ¬(f = false ∧ (u ++ 93 :: v).head? = some 93) := by
        rintro ⟨rfl, hh⟩
        rw [loopF_end _ _ hh] at h
        injection h with h
        injection h with _ h
        have e5 := congrArg List.length h
        rw [List.length_append, List.length_cons] at e5
        omega
      have hn2 : ¬(f = false ∧ (u ++ 93 :: v').head? = some 93) := by
        rintro ⟨h1, hh⟩
        refine hn1 ⟨h1, ?_⟩
        cases u with
        | nil => simp at hl
        | cons a u => simpa using hh
      cases hp : partV (u ++ 93 :: v) with
      | none => rw [loopF_none hn1 hp] at h; cases h
      | some x =>
        rw [loopF_next hn1 hp] at h
        have hlx := loopF_len h
        obtain ⟨k, k1, k2, k3, k4⟩ := partV_swap u v v' hp (by simp at hlx; omega)
        rw [loopF_next hn2 k4]
        rw [k3] at h
        exact ih (u.drop k) (by simp; omega) false _ q v v' h
end Go.Proofs.YtpignlkojlbhkaaDoor
