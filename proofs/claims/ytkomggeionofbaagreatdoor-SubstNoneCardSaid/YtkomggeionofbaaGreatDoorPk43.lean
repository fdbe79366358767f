/-
  Several texts of the proof: MatNd, MatFitV, MatWiP.
-/
import Derived.Test.YtkomggeionofbaaGreatDoorPk32
import Derived.Test.YtkomggeionofbaaGreatDoorPk42
import Derived.Test.YtkomggeionofbaaGreatDoorPk31
import Derived.Test.YtkomggeionofbaaGreatDoorPk22
import Derived.Test.YtkomggeionofbaaGreatDoorPk30
set_option linter.unusedSimpArgs false
set_option linter.unusedVariables false
/-
  Matches: the nodes of a pattern that was read are as a match needs them; there are as many as were counted.
-/
namespace Go.Proofs.YtkomggeionofbaaGreatDoor
open Go.RowKit

structure OkN (x : Nk) (s t : PS) : Prop where
  nd : NdOk x.1
  kids : AllNd x.2
  size : x.2.size + 1 + s.parts = t.parts
  le : t.parts ≤ 200
set_option maxRecDepth 3000 in
theorem times_nd {n : Nat} : ∀ {x : Nk} {s : PS} {y : Nk × PS} {p : PS}, timesV n x s = some y → OkN x p s → OkN y.1 p y.2 := by
  induction n with
  | zero => intro x s y p h; cases h
  | succ n ih =>
    intro x s y p h hx
    unfold timesV at h
    split at h
    · rw [Option.bind_eq_some_iff] at h
      obtain ⟨t, h1, h2⟩ := h
      obtain ⟨q1, rfl⟩ := node1_eq h1
      have hz := hx.size
      exact ih h2 ⟨⟨by simp [timesN, ndK], by simp [timesN, ndK], by simp [timesN, ndK]⟩, ⟨hx.nd, hx.kids, trivial⟩, by simp only [Fr.one, Fr.size]; omega, q1⟩
    · split at h
      · rw [Option.bind_eq_some_iff] at h
        obtain ⟨b, hb, h⟩ := h
        rw [Option.bind_eq_some_iff] at h
        obtain ⟨t, h1, h2⟩ := h
        obtain ⟨q1, rfl⟩ := node1_eq h1
        obtain ⟨b1, b2, b3, b4⟩ := bounds_good hb
        have hz := hx.size
        exact ih h2 ⟨⟨by simp only [timesN, ndK]; omega, by simp only [timesN, ndK]; omega, by simp [timesN, ndK]⟩, ⟨hx.nd, hx.kids, trivial⟩, by simp only [Fr.one, Fr.size]; omega, q1⟩
      · injection h with h; subst h; exact hx
set_option maxRecDepth 3000 in
theorem more1_nd {x : Nk} {s : PS} {y : Nk × PS} {p : PS} (h : more1 x s = some y) (hx : OkN x p s) : OkN y.1 p y.2 := by
  unfold more1 at h
  split at h
  · injection h with h; subst h; exact hx
  · exact times_nd h hx
set_option maxRecDepth 3000 in
theorem leaf_nd {s : PS} {x : NdV} {y : Nk × PS} {p : PS} (hn : NdOk x) (hp : p.parts = s.parts) (h : (node1 s).map (fun s => ((x, Fr.nil), s)) = some y) : OkN y.1 p y.2 := by
  rw [Option.map_eq_some_iff] at h
  obtain ⟨t, h3, rfl⟩ := h
  obtain ⟨q1, rfl⟩ := node1_eq h3
  exact ⟨hn, trivial, by simp only [Fr.size]; omega, q1⟩
section
variable {row : PS → Option (Fr × PS)}
def RowNd (row : PS → Option (Fr × PS)) : Prop := ∀ s y, row s = some y → AllNd y.1 ∧ y.1.size + s.parts = y.2.parts ∧ (s.parts ≤ 200 → y.2.parts ≤ 200)
set_option maxRecDepth 3000 in
theorem groupV_nd (hr : RowNd row) {s : PS} {y : Nk × PS} {p : PS} (h : groupV row s = some y) (hp : p.parts = s.parts) : OkN y.1 p y.2 := by
  unfold groupV at h
  split at h
  · rename_i h9
    rw [Option.bind_eq_some_iff] at h
    obtain ⟨t, h1, h⟩ := h
    rw [Option.bind_eq_some_iff] at h
    obtain ⟨z, h2, h⟩ := h
    split at h
    · injection h with h
      subst h
      obtain ⟨q1, rfl⟩ := node1_eq h1
      obtain ⟨r1, r2, r3⟩ := hr _ _ h2
      simp only [] at r2 r3 q1
      exact ⟨⟨by simp [groupN, ndK], by simp [groupN, ndK], by simp only [groupN, ndK]; omega⟩, r1, by simp only []; omega, r3 q1⟩
    · cases h
  · cases h
set_option maxRecDepth 3000 in
theorem slashV_nd (hr : RowNd row) {s : PS} {y : Nk × PS} {p : PS} (h : slashV row s = some y) (hp : p.parts = s.parts) : OkN y.1 p y.2 := by
  obtain ⟨left, parts, groups, refs, op⟩ := s
  cases left with
  | nil => cases h
  | cons c l =>
    unfold slashV at h
    simp only [] at h
    split at h
    · exact groupV_nd hr h (by exact hp)
    · split at h
      · rename_i hd
        split at h
        · exact leaf_nd (x := refN (c.toNat - 48)) ⟨by simp [refN, ndK], by simp [refN, ndK], by simp only [refN, ndK]; omega⟩ (by exact hp) h
        · cases h
      · split at h
        · cases h
        · exact leaf_nd (x := byteN c.toNat) ⟨by simp [byteN, ndK], by simp [byteN, ndK], by simp [byteN, ndK]⟩ (by exact hp) h
set_option maxRecDepth 3000 in
theorem partW_nd (hr : RowNd row) {first begun : Bool} {s : PS} {y : Nk × PS} {p : PS} (h : partW row first begun s = some y) (hp : p.parts = s.parts) : OkN y.1 p y.2 := by
  obtain ⟨left, parts, groups, refs, op⟩ := s
  cases left with
  | nil => cases h
  | cons c l =>
    unfold partW at h
    simp only [] at h
    split at h
    · exact slashV_nd hr h (by exact hp)
    · split at h
      · rw [Option.bind_eq_some_iff] at h
        obtain ⟨p, hp2, h⟩ := h
        exact leaf_nd (x := setN p.1) ⟨by simp [setN, ndK], by simp [setN, ndK], by simp [setN, ndK]⟩ (by exact hp) h
      · split at h
        · exact leaf_nd (x := ndK 2) ⟨by simp [ndK], by simp [ndK], by simp [ndK]⟩ (by exact hp) h
        · split at h
          · exact leaf_nd (x := ndK 4) ⟨by simp [ndK], by simp [ndK], by simp [ndK]⟩ (by exact hp) h
          · split at h
            · exact leaf_nd (x := ndK 5) ⟨by simp [ndK], by simp [ndK], by simp [ndK]⟩ (by exact hp) h
            · split at h
              · cases h
              · exact leaf_nd (x := byteN c.toNat) ⟨by simp [byteN, ndK], by simp [byteN, ndK], by simp [byteN, ndK]⟩ (by exact hp) h
end
set_option maxRecDepth 3000 in
theorem rowV_nd (n : Nat) : ∀ (first begun : Bool), RowNd (rowV n first begun) := by
  induction n with
  | zero => intro f b s y h; cases h
  | succ n ih =>
    intro f b s y h
    unfold rowV at h
    split at h
    · injection h with h; subst h; exact ⟨trivial, by simp [Fr.size], fun h => h⟩
    · rw [Option.bind_eq_some_iff] at h
      obtain ⟨a, h1, h⟩ := h
      rw [Option.bind_eq_some_iff] at h
      obtain ⟨c, h2, h⟩ := h
      rw [Option.map_eq_some_iff] at h
      obtain ⟨r, h3, rfl⟩ := h
      have g1 := more1_nd h2 (partW_nd (ih true false) h1 rfl)
      obtain ⟨g2, g3, g4⟩ := ih _ _ _ _ h3
      have hz := g1.size
      exact ⟨⟨g1.nd, g1.kids, g2⟩, by simp only [Fr.size]; omega, fun _ => g4 g1.le⟩
set_option maxRecDepth 3000 in
theorem patV_nd {l : List UInt8} {y : Fr × PS} (h : patV l = some y) : AllNd y.1 ∧ y.1.size = y.2.parts ∧ y.1.size ≤ 200 := by
  unfold patV at h
  rw [Option.bind_eq_some_iff] at h
  obtain ⟨z, h1, h⟩ := h
  split at h
  · injection h with h
    subst h
    obtain ⟨g1, g2, g3⟩ := rowV_nd _ _ _ _ _ h1
    have := g3 (by simp [ps0])
    simp only [ps0] at g2
    exact ⟨g1, by omega, by omega⟩
  · cases h
end Go.Proofs.YtkomggeionofbaaGreatDoor

/-
  Matches: rows of letters and dots: what fits, place by place; what their matches are.
-/
namespace Go.Proofs.YtkomggeionofbaaGreatDoor
open Go.RowKit

/-! ### what a pattern without references matches -/
set_option maxRecDepth 3000 in
theorem spSet_0 {g : Spn} (hg : g.length = 20) (a b : Int) : (spSet g 0 a b).getD 0 0 = a ∧ (spSet g 0 a b).getD 1 0 = b ∧ ∀ i, 2 ≤ i → (spSet g 0 a b).getD i 0 = g.getD i 0 := by
  unfold spSet
  refine ⟨?_, ?_, fun i hi => ?_⟩
  · rw [List.getD_eq_getElem?_getD, List.getElem?_set_ne (by omega), List.getElem?_set_self (by omega)]; rfl
  · rw [List.getD_eq_getElem?_getD, List.getElem?_set_self (by rw [List.length_set]; omega)]; rfl
  · rw [List.getD_eq_getElem?_getD, List.getElem?_set_ne (by omega), List.getElem?_set_ne (by omega), ← List.getD_eq_getElem?_getD]
/-! ### rows -/
/-! ### letters alone -/
end Go.Proofs.YtkomggeionofbaaGreatDoor

/-
  Matches: groups' stretches lie within the match, in plain words.
-/
namespace Go.Proofs.YtkomggeionofbaaGreatDoor
open Go.RowKit

/-- Groups' numbers are from 1 up to N. -/
def AllG (N : Nat) : Fr → Prop
  | .nil => True
  | .cons x k r => (x.kind = 7 → 1 ≤ x.n ∧ x.n ≤ N) ∧ AllG N k ∧ AllG N r
set_option maxRecDepth 3000 in
theorem AllG.mono {N M : Nat} (h : N ≤ M) : ∀ {f : Fr}, AllG N f → AllG M f := by
  intro f
  induction f with
  | nil => intro _; trivial
  | cons x k r ihk ihr =>
    rintro ⟨h1, h2, h3⟩
    exact ⟨fun e => ⟨(h1 e).1, Nat.le_trans (h1 e).2 h⟩, ihk h2, ihr h3⟩
set_option maxRecDepth 3000 in
theorem sp_at {g : Spn} (hg : g.length = 20) {n k : Nat} (hn : n < 10) (hk : k < 10) (a b : Int) : spA (spSet g n a b) k = (if k = n then a else spA g k) ∧ spB (spSet g n a b) k = (if k = n then b else spB g k) := by
  unfold spA spB spSet
  by_cases h : k = n
  · subst h
    rw [if_pos rfl, if_pos rfl]
    constructor
    · rw [List.getD_eq_getElem?_getD, List.getElem?_set_ne (by omega), List.getElem?_set_self (by omega)]; rfl
    · rw [List.getD_eq_getElem?_getD, List.getElem?_set_self (by rw [List.length_set]; omega)]; rfl
  · rw [if_neg h, if_neg h]
    constructor
    · rw [List.getD_eq_getElem?_getD, List.getElem?_set_ne (by omega), List.getElem?_set_ne (by omega), ← List.getD_eq_getElem?_getD]
    · rw [List.getD_eq_getElem?_getD, List.getElem?_set_ne (by omega), List.getElem?_set_ne (by omega), ← List.getD_eq_getElem?_getD]
/-- Each group's stretch is none, or lies from lo up to hi; none has a greater number. -/
structure InW (lo hi : Int) (N : Nat) (g : Spn) : Prop where
  len : g.length = 20
  each : ∀ k, 1 ≤ k → k < 10 → (spA g k = -1 ∧ spB g k = -1) ∨ (k ≤ N ∧ lo ≤ spA g k ∧ spA g k ≤ spB g k ∧ spB g k ≤ hi)
section
variable {lo hi : Int} {N : Nat} {g : Spn}
set_option maxRecDepth 3000 in
theorem InW.set (h : InW lo hi N g) {n : Nat} (hn : n ≤ N) (hN : N ≤ 9) {a b : Int} (h1 : lo ≤ a) (h2 : a ≤ b) (h3 : b ≤ hi) : InW lo hi N (spSet g n a b) := by
  refine ⟨by rw [spSet_len]; exact h.len, fun k k1 k2 => ?_⟩
  obtain ⟨q1, q2⟩ := sp_at h.len (show n < 10 by omega) k2 a b
  rw [q1, q2]
  by_cases e : k = n
  · rw [if_pos e, if_pos e]; exact .inr ⟨by omega, h1, h2, h3⟩
  · rw [if_neg e, if_neg e]; exact h.each k k1 k2
set_option maxRecDepth 3000 in
theorem InW.none (h : InW lo hi N g) {n : Nat} (hn : n ≤ 9) : InW lo hi N (spSet g n (-1) (-1)) := by
  refine ⟨by rw [spSet_len]; exact h.len, fun k k1 k2 => ?_⟩
  obtain ⟨q1, q2⟩ := sp_at h.len (show n < 10 by omega) k2 (-1) (-1)
  rw [q1, q2]
  by_cases e : k = n
  · rw [if_pos e, if_pos e]; exact .inl ⟨rfl, rfl⟩
  · rw [if_neg e, if_neg e]; exact h.each k k1 k2
set_option maxRecDepth 3000 in
theorem InW.unset (hN : N ≤ 9) : ∀ {f : Fr} {g : Spn}, AllG N f → InW lo hi N g → InW lo hi N (unsetV f g) := by
  intro f
  induction f with
  | nil => intro g _ h; exact h
  | cons x k r ihk ihr =>
    rintro g ⟨h1, h2, h3⟩ h
    unfold unsetV
    refine ihr h3 (ihk h2 ?_)
    split
    · rename_i e
      exact h.none (by have := (h1 e).2; omega)
    · exact h
end
set_option maxRecDepth 3000 in
theorem plain_is {s : List UInt8} {f : Fr} {g : Spn} : ∀ {n k : Nat}, k + n = s.length + 1 → plainV s f n k = some g → ∃ i j, k ≤ i ∧ i ≤ j ∧ j ≤ s.length ∧ endsF s f i j = true ∧ g = spSet (giveV s f i j spNone) 0 i j ∧ ∀ m, k ≤ m → m ≤ i → plainV s f (s.length + 1 - m) m = some g := by
  intro n
  induction n with
  | zero => intro k _ h; cases h
  | succ n ih =>
    intro k hk h
    have h0 := h
    simp only [plainV] at h
    split at h
    · rename_i e he
      injection h with h
      have hm : endsF s f k e = true ∧ e ≤ s.length := by
        have : ∀ n, maxOf (endsF s f k) n = some e → endsF s f k e = true ∧ e ≤ n := by
          intro n
          induction n with
          | zero =>
            intro h
            simp only [maxOf] at h
            split at h
            · rename_i hp
              injection h with h
              subst h
              exact ⟨hp, Nat.le_refl _⟩
            · cases h
          | succ n ih =>
            intro h
            simp only [maxOf] at h
            split at h
            · rename_i hp
              injection h with h
              subst h
              exact ⟨hp, Nat.le_refl _⟩
            · have := ih h; exact ⟨this.1, by omega⟩
        exact this _ he
      have hr := endsF_rises s f k e (by omega) hm.1
      refine ⟨k, e, Nat.le_refl _, hr.1, hm.2, hm.1, h.symm, fun m h1 h2 => ?_⟩
      obtain rfl : m = k := by omega
      rw [show s.length + 1 - m = n + 1 by omega]
      exact h0
    · obtain ⟨i, j, q1, q2, q3, q4, q5, q6⟩ := ih (by omega) h
      refine ⟨i, j, by omega, q2, q3, q4, q5, fun m h1 h2 => ?_⟩
      rcases Nat.lt_or_ge k m with h3 | h3
      · exact q6 m h3 h2
      · obtain rfl : m = k := by omega
        rw [show s.length + 1 - m = n + 1 by omega]
        exact h0
end Go.Proofs.YtkomggeionofbaaGreatDoor
