/-
  Patterns: two of them, one behind the other, in plain words.
-/
import Derived.Test.YtpignlkojlbhkaaDoorPk39
import Derived.Test.YtpignlkojlbhkaaDoorPk40
namespace Go.Proofs.YtpignlkojlbhkaaDoor
open Go.RowKit

/-- Neither $ nor a backslash stands last. -/
def EndOk (l : List UInt8) : Prop := ∀ u c, l = u ++ [c] → c ≠ 36 ∧ c ≠ 92
set_option maxRecDepth 3000 in
theorem EndOk.suff {l m : List UInt8} (h : EndOk l) (hs : m <:+ l) : EndOk m := by
  obtain ⟨t, rfl⟩ := hs
  intro u c e
  exact h (t ++ u) c (by rw [e]; simp)
set_option maxRecDepth 3000 in
theorem EndOk.tail {c : UInt8} {l : List UInt8} (h : EndOk (c :: l)) : EndOk l := h.suff (List.suffix_cons c l)
section
variable (b0 : List UInt8)
set_option maxRecDepth 3000 in
theorem ahead_cat2 {l : List UInt8} (h : EndOk l) (k : UInt8) : ahead [92, k] (l ++ 120 :: b0) = ahead [92, k] l := by
  cases l with
  | nil => simp [ahead_cons, ahead_empty]
  | cons c l =>
    cases l with
    | nil =>
      have hc := (h [] c rfl).2
      simp only [List.cons_append, List.nil_append, ahead_cons, ahead_empty]
      simp
      exact fun e => absurd e.symm hc
    | cons d l => simp only [List.cons_append, ahead_cons, ahead_nil]
set_option maxRecDepth 3000 in
theorem ahead_cat1 (l : List UInt8) (k : UInt8) (hk : k ≠ 120) : ahead [k] (l ++ 120 :: b0) = ahead [k] l := by
  cases l with
  | nil => simp [ahead_cons, ahead_empty]; exact fun e => absurd e hk
  | cons c l => simp only [List.cons_append, ahead_cons, ahead_nil]
set_option maxRecDepth 3000 in
theorem while_cat (p : UInt8 → Bool) (b : List UInt8) : ∀ l : List UInt8, l.dropWhile p ≠ [] → (l ++ b).takeWhile p = l.takeWhile p ∧ (l ++ b).dropWhile p = l.dropWhile p ++ b
  | [], h => absurd rfl h
  | c :: l, h => by
    cases hc : p c with
    | false => simp [hc]
    | true =>
      have h2 : l.dropWhile p ≠ [] := by simpa [hc] using h
      have := while_cat p b l h2
      simp [hc, this.1, this.2]
set_option maxRecDepth 3000 in
theorem number_cat (b : List UInt8) {l : List UInt8} (h : (numberV l).2.2 ≠ []) : numberV (l ++ b) = ((numberV l).1, (numberV l).2.1, (numberV l).2.2 ++ b) := by
  obtain ⟨h1, h2⟩ := while_cat isDig b l h
  unfold numberV
  rw [h1, h2]
set_option maxRecDepth 3000 in
theorem ahead_ne {t l : List UInt8} (h : ahead t l = true) (ht : t ≠ []) : l ≠ [] := by
  rintro rfl
  cases t with
  | nil => exact ht rfl
  | cons x t => cases h
set_option maxRecDepth 3000 in
theorem number_suff (l : List UInt8) : (numberV l).2.2 <:+ l := List.dropWhile_suffix _
set_option maxRecDepth 3000 in
theorem most_suff (m : Nat) (l : List UInt8) : (mostV m l).2 <:+ l := by
  unfold mostV
  split
  · exact (number_suff _).trans (List.drop_suffix 1 l)
  · exact List.suffix_refl _
set_option maxRecDepth 3000 in
theorem most_cat (m : Nat) {l : List UInt8} (h : (mostV m l).2 ≠ []) : mostV m (l ++ 120 :: b0) = ((mostV m l).1, (mostV m l).2 ++ 120 :: b0) := by
  unfold mostV at h ⊢
  rw [ahead_cat1 b0 l 44 (by decide)]
  split
  · rename_i ha
    rw [if_pos ha] at h
    have hl := ahead_ne ha (by simp)
    cases l with
    | nil => exact absurd rfl hl
    | cons c l =>
      simp only [List.drop_succ_cons, List.drop_zero, List.cons_append] at h ⊢
      rw [number_cat _ h]
  · rfl
set_option maxRecDepth 3000 in
theorem bounds_cat {l : List UInt8} (he : EndOk l) {x : Nat × Int × List UInt8} (h : boundsV l = some x) : boundsV (l ++ 120 :: b0) = some (x.1, x.2.1, x.2.2 ++ 120 :: b0) ∧ x.2.2 <:+ l := by
  unfold boundsV at h ⊢
  simp only [] at h ⊢
  split at h
  · rename_i hc
    injection h with h
    subst h
    have h2 : (mostV (numberV l).1 (numberV l).2.2).2 ≠ [] := ahead_ne hc.2.1 (by simp)
    have h1 : (numberV l).2.2 ≠ [] := fun e => by
      rw [e] at h2
      exact h2 rfl
    have hs : (mostV (numberV l).1 (numberV l).2.2).2 <:+ l := (most_suff _ _).trans (number_suff l)
    have hlen := ahead_len hc.2.1
    rw [number_cat _ h1]
    simp only []
    rw [most_cat b0 _ h2]
    simp only []
    rw [ahead_cat2 b0 (he.suff hs)]
    rw [if_pos hc]
    refine ⟨?_, (List.drop_suffix _ _).trans hs⟩
    simp only [List.length_cons, List.length_nil] at hlen
    rw [List.drop_append_of_le_length (by omega)]
  · cases h
end
/-- What is left, with a text behind it. -/
def PS.cat (s : PS) (b : List UInt8) : PS := { s with left := s.left ++ b }
set_option maxRecDepth 3000 in
theorem node1_cat {s t : PS} (b : List UInt8) (h : node1 s = some t) : node1 (s.cat b) = some (t.cat b) := by
  obtain ⟨h1, rfl⟩ := node1_eq h
  unfold node1 PS.cat
  rw [if_pos h1]
section
variable {b0 : List UInt8}
set_option maxRecDepth 3000 in
theorem times_cat {n : Nat} : ∀ {x : Nk} {s : PS} {y : Nk × PS}, timesV n x s = some y → EndOk s.left → timesF x (s.cat (120 :: b0)) = some (y.1, y.2.cat (120 :: b0)) ∧ y.2.left <:+ s.left := by
  induction n with
  | zero => intro x s y h; cases h
  | succ n ih =>
    intro x s y h he
    rw [timesF_eq]
    have e1 : ahead [42] (s.cat (120 :: b0)).left = ahead [42] s.left := ahead_cat1 b0 _ _ (by decide)
    have e2 : ahead [92, 123] (s.cat (120 :: b0)).left = ahead [92, 123] s.left := ahead_cat2 b0 he _
    rw [e1, e2]
    unfold timesV at h
    split at h
    · rename_i ha
      rw [if_pos ha]
      rw [Option.bind_eq_some_iff] at h
      obtain ⟨t, h1, h2⟩ := h
      have hl := ahead_len ha
      simp only [List.length_cons, List.length_nil] at hl
      have hk := (node1_left h1).1
      have h3 := node1_cat (120 :: b0) h1
      have e3 : (⟨(s.cat (120 :: b0)).left.drop 1, s.parts, s.groups, s.refs, s.op⟩ : PS) = PS.cat { s with left := s.left.drop 1 } (120 :: b0) := by
        unfold PS.cat
        simp only []
        rw [List.drop_append_of_le_length (by omega)]
      have e3 : ({ s.cat (120 :: b0) with left := (s.cat (120 :: b0)).left.drop 1 } : PS) = PS.cat { s with left := s.left.drop 1 } (120 :: b0) := e3
      rw [e3, h3]
      have hs : t.left <:+ s.left := by rw [hk]; exact List.drop_suffix _ _
      obtain ⟨q1, q2⟩ := ih h2 (he.suff hs)
      exact ⟨q1, q2.trans hs⟩
    · rename_i ha
      rw [if_neg ha]
      split at h
      · rename_i hb
        rw [if_pos hb]
        rw [Option.bind_eq_some_iff] at h
        obtain ⟨b, hbd, h⟩ := h
        rw [Option.bind_eq_some_iff] at h
        obtain ⟨t, h1, h2⟩ := h
        have hl := ahead_len hb
        simp only [List.length_cons, List.length_nil] at hl
        have hk := (node1_left h1).1
        have h3 := node1_cat (120 :: b0) h1
        have e4 : (s.cat (120 :: b0)).left.drop 2 = s.left.drop 2 ++ 120 :: b0 := by
          unfold PS.cat
          simp only []
          rw [List.drop_append_of_le_length (by omega)]
        obtain ⟨c1, c2⟩ := bounds_cat b0 (he.suff (List.drop_suffix 2 _)) hbd
        rw [e4, c1]
        simp only [Option.bind_some]
        have e3 : ({ s.cat (120 :: b0) with left := b.2.2 ++ 120 :: b0 } : PS) = PS.cat { s with left := b.2.2 } (120 :: b0) := rfl
        rw [e3, h3]
        have hs : t.left <:+ s.left := by rw [hk]; exact c2.trans (List.drop_suffix _ _)
        obtain ⟨q1, q2⟩ := ih h2 (he.suff hs)
        exact ⟨q1, q2.trans hs⟩
      · rename_i hb
        rw [if_neg hb]
        injection h with h
        subst h
        exact ⟨rfl, List.suffix_refl _⟩
set_option maxRecDepth 3000 in
theorem more1_cat {x : Nk} {s : PS} {y : Nk × PS} (h : more1 x s = some y) (he : EndOk s.left) : more1 x (s.cat (120 :: b0)) = some (y.1, y.2.cat (120 :: b0)) ∧ y.2.left <:+ s.left := by
  unfold more1 at h ⊢
  split at h
  · rename_i hk
    rw [if_pos hk]
    injection h with h; subst h; exact ⟨rfl, List.suffix_refl _⟩
  · rename_i hk
    rw [if_neg hk]
    exact times_cat h he
set_option maxRecDepth 3000 in
theorem leaf_cat {s : PS} {x : NdV} {y : Nk × PS} (b : List UInt8) (h : (node1 s).map (fun s => ((x, Fr.nil), s)) = some y) : (node1 (s.cat b)).map (fun s => ((x, Fr.nil), s)) = some (y.1, y.2.cat b) ∧ y.2.left = s.left := by
  rw [Option.map_eq_some_iff] at h
  obtain ⟨t, h3, rfl⟩ := h
  rw [node1_cat b h3]
  exact ⟨rfl, (node1_left h3).1⟩
set_option maxRecDepth 3000 in
/-- What stands behind an expression makes no difference. -/
theorem parse_cat {t : List UInt8} {x : (Nat → Bool) × Nat} (h : parseV t = some x) (b : List UInt8) : parseV (t ++ b) = some x ∧ x.2 ≤ t.length := by
  unfold parseV at h ⊢
  split at h
  · rename_i h0
    have key : ∀ (j : Nat) (z : (Nat → Bool) × List UInt8), loopF true (fun _ => false) (t.drop j) = some z → j ≤ t.length →
        loopF true (fun _ => false) ((t ++ b).drop j) = some (z.1, z.2 ++ b) ∧ z.2 ≠ [] ∧ z.2.length + j < t.length ∧ t.drop j ≠ [] := by
      intro j z hz hj
      obtain ⟨u, v, e1, e2, e3⟩ := loopF_split hz
      obtain ⟨q, r⟩ := z
      simp only [] at e2
      subst e2
      rw [e1] at hz
      have := loopF_swap _ u (Nat.le_refl _) true (fun _ => false) q v (v ++ b) hz
      have hlen : (t.drop j).length = (u ++ 93 :: v).length := by rw [e1]
      have hu := e3 rfl
      simp at hlen
      refine ⟨?_, by simp, by simp; omega, by rw [e1]; simp⟩
      rw [List.drop_append_of_le_length hj, e1]
      simpa using this
    have hne : t ≠ [] := fun e => by subst e; cases h0
    have hh : (t ++ b).head? = some 91 := by
      cases t with
      | nil => exact absurd rfl hne
      | cons c t => exact h0
    rw [if_pos hh]
    have hl0 : 1 ≤ t.length := by cases t with | nil => exact absurd rfl hne | cons c t => simp
    split at h
    · rename_i h1
      rw [Option.map_eq_some_iff] at h
      obtain ⟨z, hz, rfl⟩ := h
      have hl1 : 2 ≤ t.length := by
        cases t with
        | nil => exact absurd rfl hne
        | cons c t => cases t with | nil => cases h1 | cons d t => simp
      obtain ⟨k1, k2, k3, k4⟩ := key 2 z hz hl1
      have h1' : ((t ++ b).drop 1).head? = some 94 := by
        rw [List.drop_append_of_le_length hl0]
        rw [List.head?_append, h1]; rfl
      rw [if_pos h1', k1]
      refine ⟨?_, by have := List.length_pos_iff.2 k2; simp only []; omega⟩
      simp only [Option.map_some, List.length_append]
      congr 2
      omega
    · rename_i h1
      rw [Option.map_eq_some_iff] at h
      obtain ⟨z, hz, rfl⟩ := h
      obtain ⟨k1, k2, k3, k4⟩ := key 1 z hz hl0
      have h1' : ¬((t ++ b).drop 1).head? = some 94 := by
        rw [List.drop_append_of_le_length hl0, List.head?_append]
        cases hq : (t.drop 1).head? with
        | none => rw [List.head?_eq_none_iff] at hq; exact absurd hq k4
        | some c => rw [hq] at h1; exact h1
      rw [if_neg h1', k1]
      refine ⟨?_, by have := List.length_pos_iff.2 k2; simp only []; omega⟩
      simp only [Option.map_some, List.length_append]
      congr 2
      omega
  · cases h
/-- Rows that end ahead of more text. -/
def RowCat (N : Nat) : Prop := ∀ (first begun : Bool) (s : PS) (y : Fr × PS), s.left.length ≤ N → EndOk s.left → rowF first begun s = some y → y.2.left <:+ s.left ∧ (y.2.left ≠ [] → rowF first begun (s.cat (120 :: b0)) = some (y.1, y.2.cat (120 :: b0))) ∧
  (y.2.left = [] → ∃ f2 b2, rowF first begun (s.cat (120 :: b0)) = (rowF f2 b2 (y.2.cat (120 :: b0))).map fun z => (y.1.app z.1, z.2))
set_option maxRecDepth 3000 in
theorem group_cat {N : Nat} (ih : RowCat (b0 := b0) N) {s : PS} {y : Nk × PS} (hl : s.left.length ≤ N) (he : EndOk s.left) (h : groupV (rowF true false) s = some y) :
    groupV (rowF true false) (s.cat (120 :: b0)) = some (y.1, y.2.cat (120 :: b0)) ∧ y.2.left <:+ s.left := by
  unfold groupV at h ⊢
  split at h
  · rename_i h9
    rw [if_pos (show (s.cat (120 :: b0)).groups + 1 ≤ 9 from h9)]
    rw [Option.bind_eq_some_iff] at h
    obtain ⟨t, h1, h⟩ := h
    rw [Option.bind_eq_some_iff] at h
    obtain ⟨z, h2, h⟩ := h
    have h3 := node1_cat (120 :: b0) h1
    have hk := (node1_left h1).1
    have e3 : ({ s.cat (120 :: b0) with groups := (s.cat (120 :: b0)).groups + 1 } : PS) = PS.cat { s with groups := s.groups + 1 } (120 :: b0) := rfl
    rw [e3, h3]
    simp only [Option.bind_some]
    split at h
    · rename_i ha
      injection h with h
      subst h
      have hne := ahead_ne ha (by simp)
      have hlen := ahead_len ha
      simp only [List.length_cons, List.length_nil] at hlen
      simp only [] at hk
      obtain ⟨c1, c2, -⟩ := ih _ _ _ _ (by simp only []; rw [hk]; exact hl) (by simp only []; rw [hk]; exact he) h2
      have c2 := c2 hne
      simp only [] at c1
      rw [hk] at c1
      have e4 : ({ t.cat (120 :: b0) with op := (t.cat (120 :: b0)).op ++ [(t.cat (120 :: b0)).groups] } : PS) = PS.cat { t with op := t.op ++ [t.groups] } (120 :: b0) := rfl
      rw [e4, c2]
      simp only [Option.bind_some]
      have e5 : ahead [92, 41] (z.2.cat (120 :: b0)).left = ahead [92, 41] z.2.left := ahead_cat2 b0 (he.suff c1) _
      rw [e5, if_pos ha]
      refine ⟨?_, (List.drop_suffix _ _).trans c1⟩
      unfold PS.cat
      simp only []
      rw [List.drop_append_of_le_length (by omega)]
    · cases h
  · cases h
set_option maxRecDepth 3000 in
theorem slash_cat {N : Nat} (ih : RowCat (b0 := b0) N) {s : PS} {y : Nk × PS} (hl : s.left.length ≤ N) (he : EndOk s.left) (h : slashV (rowF true false) s = some y) :
    slashV (rowF true false) (s.cat (120 :: b0)) = some (y.1, y.2.cat (120 :: b0)) ∧ y.2.left <:+ s.left := by
  obtain ⟨left, parts, groups, refs, op⟩ := s
  cases left with
  | nil => cases h
  | cons c l =>
    simp only [List.length_cons] at hl
    have he := EndOk.tail he
    unfold slashV at h ⊢
    rw [show (PS.cat ⟨c :: l, parts, groups, refs, op⟩ (120 :: b0)).left = c :: (l ++ 120 :: b0) from rfl]
    simp only [] at h ⊢
    split at h
    · rename_i hc
      rw [if_pos hc]
      obtain ⟨q1, q2⟩ := group_cat (s := ⟨l, parts, groups, refs, op⟩) ih (by simp only []; omega) he h
      exact ⟨q1, q2.trans (List.suffix_cons c l)⟩
    · rename_i hc
      rw [if_neg hc]
      split at h
      · rename_i hd
        rw [if_pos hd]
        split at h
        · rename_i hg
          rw [show (PS.cat ⟨c :: l, parts, groups, refs, op⟩ (120 :: b0)).groups = groups from rfl, show (PS.cat ⟨c :: l, parts, groups, refs, op⟩ (120 :: b0)).op = op from rfl, if_pos hg]
          obtain ⟨q1, q2⟩ := leaf_cat (x := refN (c.toNat - 48)) (s := ⟨l, parts, groups, true, op⟩) (120 :: b0) h
          exact ⟨q1, by rw [q2]; exact List.suffix_cons c l⟩
        · cases h
      · rename_i hd
        rw [if_neg hd]
        split at h
        · cases h
        · rename_i hx
          rw [if_neg hx]
          obtain ⟨q1, q2⟩ := leaf_cat (x := byteN c.toNat) (s := ⟨l, parts, groups, refs, op⟩) (120 :: b0) h
          exact ⟨q1, by rw [q2]; exact List.suffix_cons c l⟩
set_option maxRecDepth 3000 in
theorem part_cat {N : Nat} (ih : RowCat (b0 := b0) N) {first begun : Bool} {s : PS} {y : Nk × PS} (hl : s.left.length ≤ N + 1) (he : EndOk s.left) (h : partF first begun s = some y) :
    partF first begun (s.cat (120 :: b0)) = some (y.1, y.2.cat (120 :: b0)) ∧ y.2.left <:+ s.left := by
  obtain ⟨left, parts, groups, refs, op⟩ := s
  cases left with
  | nil => cases h
  | cons c l =>
    simp only [List.length_cons] at hl
    have he0 := he
    have he := EndOk.tail he
    unfold partF partW at h ⊢
    rw [show (PS.cat ⟨c :: l, parts, groups, refs, op⟩ (120 :: b0)).left = c :: (l ++ 120 :: b0) from rfl]
    simp only [] at h ⊢
    have lf : ∀ {x : NdV}, (node1 ⟨l, parts, groups, refs, op⟩).map (fun s => ((x, Fr.nil), s)) = some y →
        (node1 ({ PS.cat ⟨c :: l, parts, groups, refs, op⟩ (120 :: b0) with left := l ++ 120 :: b0 })).map (fun s => ((x, Fr.nil), s)) = some (y.1, y.2.cat (120 :: b0)) ∧ y.2.left <:+ c :: l := fun {x} h => by
      obtain ⟨q1, q2⟩ := leaf_cat (x := x) (s := ⟨l, parts, groups, refs, op⟩) (120 :: b0) h
      exact ⟨q1, by rw [q2]; exact List.suffix_cons c l⟩
    split at h
    · rename_i hc
      rw [if_pos hc]
      obtain ⟨q1, q2⟩ := slash_cat (s := ⟨l, parts, groups, refs, op⟩) ih (by simp only []; omega) he h
      exact ⟨q1, q2.trans (List.suffix_cons c l)⟩
    · rename_i hc
      rw [if_neg hc]
      split at h
      · rename_i hb
        rw [if_pos hb]
        rw [Option.bind_eq_some_iff] at h
        obtain ⟨p, hp, h⟩ := h
        obtain ⟨c1, c2⟩ := parse_cat hp (120 :: b0)
        rw [← List.cons_append, c1]
        simp only [Option.bind_some]
        obtain ⟨q1, q2⟩ := leaf_cat (x := setN p.1) (s := ⟨(c :: l).drop p.2, parts, groups, refs, op⟩) (120 :: b0) h
        rw [List.drop_append_of_le_length c2]
        exact ⟨q1, by rw [q2]; exact List.drop_suffix _ _⟩
      · rename_i hb
        rw [if_neg hb]
        split at h
        · rename_i hd
          rw [if_pos hd]
          exact lf h
        · rename_i hd
          rw [if_neg hd]
          split at h
          · rename_i hf
            rw [if_pos hf]
            exact lf h
          · rename_i hf
            rw [if_neg hf]
            have hdl : (c.toNat = 36 ∧ (l ++ 120 :: b0 = [] ∨ ahead [92, 41] (l ++ 120 :: b0) = true)) ↔ (c.toNat = 36 ∧ (l = [] ∨ ahead [92, 41] l = true)) := by
              rw [ahead_cat2 b0 he]
              constructor
              · rintro ⟨a, h | h⟩
                · simp at h
                · exact ⟨a, .inr h⟩
              · rintro ⟨a, h | h⟩
                · subst h
                  have := (he0 [] c rfl).1
                  exact absurd (by apply UInt8.toNat_inj.1; rw [a]; rfl) this
                · exact ⟨a, .inr h⟩
            split at h
            · rename_i hg
              rw [if_pos (hdl.2 hg)]
              exact lf h
            · rename_i hg
              rw [if_neg (fun k => hg (hdl.1 k))]
              split at h
              · cases h
              · rename_i hs
                rw [if_neg hs]
                exact lf h
set_option maxRecDepth 3000 in
theorem stop_cat {l : List UInt8} (he : EndOk l) (hne : l ≠ []) : stopV (l ++ 120 :: b0) = stopV l := by
  unfold stopV
  rw [ahead_cat2 b0 he]
  cases l with
  | nil => exact absurd rfl hne
  | cons c l => rfl
set_option maxRecDepth 3000 in
theorem row_cat (N : Nat) : RowCat (b0 := b0) N := by
  induction N with
  | zero =>
    intro first begun s y hl he h
    have hs : s.left = [] := List.length_eq_zero_iff.1 (by omega)
    rw [rowF_eq, hs] at h
    rw [if_pos (by rfl)] at h
    injection h with h
    subst h
    refine ⟨List.suffix_refl _, fun k => absurd hs k, fun _ => ⟨first, begun, ?_⟩⟩
    cases rowF first begun (s.cat (120 :: b0)) with
    | none => rfl
    | some z => rfl
  | succ N ih =>
    intro first begun s y hl he h
    rw [rowF_eq] at h
    by_cases hs : s.left = []
    · rw [if_pos (by rw [hs]; rfl)] at h
      injection h with h
      subst h
      refine ⟨List.suffix_refl _, fun k => absurd hs k, fun _ => ⟨first, begun, ?_⟩⟩
      cases rowF first begun (s.cat (120 :: b0)) with
      | none => rfl
      | some z => rfl
    · have hst : stopV (s.cat (120 :: b0)).left = stopV s.left := stop_cat he hs
      split at h
      · rename_i hq
        injection h with h
        subst h
        refine ⟨List.suffix_refl _, fun _ => ?_, fun k => absurd k hs⟩
        rw [rowF_eq, hst, if_pos hq]
      · rename_i hq
        rw [Option.bind_eq_some_iff] at h
        obtain ⟨a, h1, h⟩ := h
        rw [Option.bind_eq_some_iff] at h
        obtain ⟨c, h2, h⟩ := h
        rw [Option.map_eq_some_iff] at h
        obtain ⟨r, h3, rfl⟩ := h
        obtain ⟨p1, p2⟩ := part_cat (b0 := b0) ih hl he h1
        obtain ⟨m1, m2⟩ := more1_cat (b0 := b0) h2 (he.suff p2)
        have k1 := (partF_kept h1).2
        have k2 := m2.length_le
        obtain ⟨r1, r2, r3⟩ := ih _ _ _ _ (by omega) (he.suff (m2.trans p2)) h3
        simp only [] at r1 r2 r3 ⊢
        refine ⟨(r1.trans m2).trans p2, fun hne => ?_, fun hz => ?_⟩
        · rw [rowF_eq, hst, if_neg hq, p1]
          simp only [Option.bind_some]
          rw [m1]
          simp only [Option.bind_some]
          rw [r2 hne]
          rfl
        · obtain ⟨f2, b2, e⟩ := r3 hz
          refine ⟨f2, b2, ?_⟩
          rw [rowF_eq, hst, if_neg hq, p1]
          simp only [Option.bind_some]
          rw [m1]
          simp only [Option.bind_some]
          rw [e]
          cases rowF f2 b2 (r.2.cat (120 :: b0)) with
          | none => rfl
          | some z => rfl
end
end Go.Proofs.YtpignlkojlbhkaaDoor
