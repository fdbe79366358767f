/-
  Patterns: a row that begins behind another one, in plain words.
-/
import Derived.Test.YtpignlkojlbhkaaDoorPk41
namespace Go.Proofs.YtpignlkojlbhkaaDoor
open Go.RowKit

/-! ### references stay told -/
set_option maxRecDepth 3000 in
theorem node1_refs {s t : PS} (h : node1 s = some t) : t.refs = s.refs := (node1_left h).2.2.2
set_option maxRecDepth 3000 in
theorem times_refs {n : Nat} : ∀ {x : Nk} {s : PS} {y : Nk × PS}, timesV n x s = some y → y.2.refs = s.refs := by
  induction n with
  | zero => intro x s y h; cases h
  | succ n ih =>
    intro x s y h
    unfold timesV at h
    split at h
    · rw [Option.bind_eq_some_iff] at h
      obtain ⟨t, h1, h2⟩ := h
      have := node1_refs h1
      exact (ih h2).trans this
    · split at h
      · rw [Option.bind_eq_some_iff] at h
        obtain ⟨b, hb, h⟩ := h
        rw [Option.bind_eq_some_iff] at h
        obtain ⟨t, h1, h2⟩ := h
        have := node1_refs h1
        exact (ih h2).trans this
      · injection h with h; subst h; rfl
set_option maxRecDepth 3000 in
theorem more1_refs {x : Nk} {s : PS} {y : Nk × PS} (h : more1 x s = some y) : y.2.refs = s.refs := by
  unfold more1 at h
  split at h
  · injection h with h; subst h; rfl
  · exact times_refs h
set_option maxRecDepth 3000 in
theorem leaf_refs {s : PS} {x : NdV} {y : Nk × PS} (h : (node1 s).map (fun s => ((x, Fr.nil), s)) = some y) : y.2.refs = s.refs := by
  rw [Option.map_eq_some_iff] at h
  obtain ⟨t, h3, rfl⟩ := h
  exact node1_refs h3
section
variable {row : PS → Option (Fr × PS)} (hr : ∀ s y, row s = some y → s.refs = true → y.2.refs = true)
include hr
set_option maxRecDepth 3000 in
theorem group_refs {s : PS} {y : Nk × PS} (h : groupV row s = some y) (k : s.refs = true) : y.2.refs = true := by
  unfold groupV at h
  split at h
  · rw [Option.bind_eq_some_iff] at h
    obtain ⟨t, h1, h⟩ := h
    rw [Option.bind_eq_some_iff] at h
    obtain ⟨z, h2, h⟩ := h
    split at h
    · injection h with h
      subst h
      exact hr _ _ h2 ((node1_refs h1).trans k)
    · cases h
  · cases h
set_option maxRecDepth 3000 in
theorem slash_refs {s : PS} {y : Nk × PS} (h : slashV row s = some y) (k : s.refs = true) : y.2.refs = true := by
  obtain ⟨left, parts, groups, refs, op⟩ := s
  cases left with
  | nil => cases h
  | cons c l =>
    unfold slashV at h
    simp only [] at h
    split at h
    · exact group_refs hr h k
    · split at h
      · split at h
        · exact (leaf_refs (x := refN (c.toNat - 48)) h).trans rfl
        · cases h
      · split at h
        · cases h
        · exact (leaf_refs (x := byteN c.toNat) h).trans k
set_option maxRecDepth 3000 in
theorem part_refs {first begun : Bool} {s : PS} {y : Nk × PS} (h : partW row first begun s = some y) (k : s.refs = true) : y.2.refs = true := by
  obtain ⟨left, parts, groups, refs, op⟩ := s
  cases left with
  | nil => cases h
  | cons c l =>
    unfold partW at h
    simp only [] at h
    split at h
    · exact slash_refs hr h k
    · split at h
      · rw [Option.bind_eq_some_iff] at h
        obtain ⟨p, hp, h⟩ := h
        exact (leaf_refs (x := setN p.1) h).trans k
      · split at h
        · exact (leaf_refs (x := ndK 2) h).trans k
        · split at h
          · exact (leaf_refs (x := ndK 4) h).trans k
          · split at h
            · exact (leaf_refs (x := ndK 5) h).trans k
            · split at h
              · cases h
              · exact (leaf_refs (x := byteN c.toNat) h).trans k
end
set_option maxRecDepth 3000 in
theorem row_refs (n : Nat) : ∀ (first begun : Bool) (s : PS) (y : Fr × PS), rowV n first begun s = some y → s.refs = true → y.2.refs = true := by
  induction n with
  | zero => intro f b s y h; cases h
  | succ n ih =>
    intro f b s y h k
    unfold rowV at h
    split at h
    · injection h with h; subst h; exact k
    · rw [Option.bind_eq_some_iff] at h
      obtain ⟨a, h1, h⟩ := h
      rw [Option.bind_eq_some_iff] at h
      obtain ⟨c, h2, h⟩ := h
      rw [Option.map_eq_some_iff] at h
      obtain ⟨r, h3, rfl⟩ := h
      show r.2.refs = true
      exact ih _ _ _ _ h3 ((more1_refs h2).trans (part_refs (fun s y h => ih true false s y h) h1 k))
set_option maxRecDepth 3000 in
theorem not_true {a b : Bool} (h : a = true → b = true) (hb : b = false) : a = false := by
  cases a with
  | false => rfl
  | true => rw [h rfl] at hb; cases hb
/-! ### a state with more ahead of it -/
section
variable (dp dg : Nat) (rf : Bool)
def PS.sh (s : PS) : PS := ⟨s.left, s.parts + dp, s.groups + dg, rf, s.op.map (· + dg)⟩
set_option maxRecDepth 3000 in
theorem node1_sh {s t : PS} (h : node1 s = some t) (hp : t.parts + dp ≤ 200) : node1 (s.sh dp dg rf) = some (t.sh dp dg rf) := by
  obtain ⟨h1, rfl⟩ := node1_eq h
  unfold node1 PS.sh
  simp only [] at hp ⊢
  rw [if_pos (by omega), show s.parts + dp + 1 = s.parts + 1 + dp by omega]
set_option maxRecDepth 3000 in
theorem times_sh {n : Nat} : ∀ {x x' : Nk} {s : PS} {y : Nk × PS}, timesV n x s = some y → y.2.parts + dp ≤ 200 → x.1.kind = x'.1.kind → ∃ z, timesV n x' (s.sh dp dg rf) = some (z, y.2.sh dp dg rf) ∧ z.1.kind = y.1.1.kind := by
  induction n with
  | zero => intro x x' s y h; cases h
  | succ n ih =>
    intro x x' s y h hp hx
    unfold timesV at h ⊢
    rw [show (s.sh dp dg rf).left = s.left from rfl]
    split at h
    · rename_i ha
      rw [if_pos ha]
      rw [Option.bind_eq_some_iff] at h
      obtain ⟨t, h1, h2⟩ := h
      have k := (timesV_kept h2).parts
      have h3 := node1_sh dp dg rf h1 (by omega)
      rw [show ({ s.sh dp dg rf with left := s.left.drop 1 } : PS) = PS.sh dp dg rf { s with left := s.left.drop 1 } from rfl, h3]
      exact ih h2 hp rfl
    · rename_i ha
      rw [if_neg ha]
      split at h
      · rename_i hb
        rw [if_pos hb]
        rw [Option.bind_eq_some_iff] at h
        obtain ⟨b, hbd, h⟩ := h
        rw [Option.bind_eq_some_iff] at h
        obtain ⟨t, h1, h2⟩ := h
        have k := (timesV_kept h2).parts
        have h3 := node1_sh dp dg rf h1 (by omega)
        rw [hbd]
        simp only [Option.bind_some]
        rw [show ({ s.sh dp dg rf with left := b.2.2 } : PS) = PS.sh dp dg rf { s with left := b.2.2 } from rfl, h3]
        exact ih h2 hp rfl
      · rename_i hb
        rw [if_neg hb]
        injection h with h
        subst h
        exact ⟨x', rfl, hx.symm⟩
set_option maxRecDepth 3000 in
theorem more1_sh {x x' : Nk} {s : PS} {y : Nk × PS} (h : more1 x s = some y) (hp : y.2.parts + dp ≤ 200) (hx : x.1.kind = x'.1.kind) : ∃ z, more1 x' (s.sh dp dg rf) = some (z, y.2.sh dp dg rf) ∧ z.1.kind = y.1.1.kind := by
  unfold more1 at h ⊢
  rw [hx] at h
  split at h
  · rename_i hk
    rw [if_pos hk]
    injection h with h; subst h; exact ⟨x', rfl, hx.symm⟩
  · rename_i hk
    rw [if_neg hk]
    exact times_sh dp dg rf h hp hx
set_option maxRecDepth 3000 in
theorem leaf_sh {s : PS} {x : NdV} {y : Nk × PS} (h : (node1 s).map (fun s => ((x, Fr.nil), s)) = some y) (hp : y.2.parts + dp ≤ 200) : ∃ z, (node1 (s.sh dp dg rf)).map (fun s => ((x, Fr.nil), s)) = some (z, y.2.sh dp dg rf) ∧ z.1.kind = y.1.1.kind := by
  rw [Option.map_eq_some_iff] at h
  obtain ⟨t, h3, rfl⟩ := h
  rw [node1_sh dp dg rf h3 hp]
  exact ⟨(x, .nil), rfl, rfl⟩
def RowSh (row : PS → Option (Fr × PS)) : Prop := ∀ s y, row s = some y → y.2.refs = false → y.2.parts + dp ≤ 200 → y.2.groups + dg ≤ 9 → ∃ f, row (s.sh dp dg rf) = some (f, y.2.sh dp dg rf) ∧ f.len = y.1.len
section
variable {row : PS → Option (Fr × PS)} (hk : RowOk row) (hr : ∀ s y, row s = some y → s.refs = true → y.2.refs = true) (hs : RowSh dp dg rf row)
include hk hr hs
omit hr in
set_option maxRecDepth 3000 in
theorem group_sh {s : PS} {y : Nk × PS} (h : groupV row s = some y) (h1 : y.2.refs = false) (h2 : y.2.parts + dp ≤ 200) (h3 : y.2.groups + dg ≤ 9) : ∃ z, groupV row (s.sh dp dg rf) = some (z, y.2.sh dp dg rf) ∧ z.1.kind = y.1.1.kind := by
  unfold groupV at h ⊢
  split at h
  · rename_i h9
    rw [Option.bind_eq_some_iff] at h
    obtain ⟨t, n1, h⟩ := h
    rw [Option.bind_eq_some_iff] at h
    obtain ⟨z, r1, h⟩ := h
    split at h
    · rename_i ha
      injection h with h
      subst h
      simp only [] at h1 h2 h3
      obtain ⟨np, rfl⟩ := node1_eq n1
      have k := hk _ _ r1
      have kg := k.groups
      have kp := k.parts
      simp only [] at kg kp
      have n2 := node1_sh dp dg rf n1 (by simp only []; omega)
      obtain ⟨f, e1, e2⟩ := hs _ _ r1 h1 h2 h3
      have hg9 : (s.sh dp dg rf).groups + 1 ≤ 9 := by unfold PS.sh; simp only []; omega
      rw [if_pos hg9]
      have e3 : ({ s.sh dp dg rf with groups := (s.sh dp dg rf).groups + 1 } : PS) = PS.sh dp dg rf { s with groups := s.groups + 1 } := by
        unfold PS.sh
        simp only []
        rw [show s.groups + dg + 1 = s.groups + 1 + dg by omega]
      rw [e3, n2]
      simp only [Option.bind_some]
      simp only [PS.sh, List.map_append, List.map_cons, List.map_nil] at e1 ⊢
      rw [e1]
      simp only [Option.bind_some]
      rw [if_pos ha]
      exact ⟨_, by rw [List.map_dropLast], rfl⟩
    · cases h
  · cases h
omit hr in
set_option maxRecDepth 3000 in
theorem slash_sh {s : PS} {y : Nk × PS} (h : slashV row s = some y) (h1 : y.2.refs = false) (h2 : y.2.parts + dp ≤ 200) (h3 : y.2.groups + dg ≤ 9) : ∃ z, slashV row (s.sh dp dg rf) = some (z, y.2.sh dp dg rf) ∧ z.1.kind = y.1.1.kind := by
  obtain ⟨left, parts, groups, refs, op⟩ := s
  cases left with
  | nil => cases h
  | cons c l =>
    unfold slashV at h ⊢
    rw [show (PS.sh dp dg rf ⟨c :: l, parts, groups, refs, op⟩).left = c :: l from rfl]
    simp only [] at h ⊢
    split at h
    · rename_i hc
      rw [if_pos hc]
      exact group_sh dp dg rf hk hs (s := ⟨l, parts, groups, refs, op⟩) h h1 h2 h3
    · rename_i hc
      rw [if_neg hc]
      split at h
      · split at h
        · have := leaf_refs (x := refN (c.toNat - 48)) h
          rw [h1] at this
          cases this
        · cases h
      · rename_i hd
        rw [if_neg hd]
        split at h
        · cases h
        · rename_i hx
          rw [if_neg hx]
          exact leaf_sh dp dg rf (x := byteN c.toNat) (s := ⟨l, parts, groups, refs, op⟩) h h2
omit hr in
set_option maxRecDepth 3000 in
theorem part_sh {first begun : Bool} {s : PS} {y : Nk × PS} (h : partW row first begun s = some y) (h1 : y.2.refs = false) (h2 : y.2.parts + dp ≤ 200) (h3 : y.2.groups + dg ≤ 9) : ∃ z, partW row first begun (s.sh dp dg rf) = some (z, y.2.sh dp dg rf) ∧ z.1.kind = y.1.1.kind := by
  obtain ⟨left, parts, groups, refs, op⟩ := s
  cases left with
  | nil => cases h
  | cons c l =>
    unfold partW at h ⊢
    rw [show (PS.sh dp dg rf ⟨c :: l, parts, groups, refs, op⟩).left = c :: l from rfl]
    simp only [] at h ⊢
    have lf : ∀ {x : NdV}, (node1 ⟨l, parts, groups, refs, op⟩).map (fun s => ((x, Fr.nil), s)) = some y →
        ∃ z, (node1 ({ PS.sh dp dg rf ⟨c :: l, parts, groups, refs, op⟩ with left := l })).map (fun s => ((x, Fr.nil), s)) = some (z, y.2.sh dp dg rf) ∧ z.1.kind = y.1.1.kind := fun {x} h =>
      leaf_sh dp dg rf (x := x) (s := ⟨l, parts, groups, refs, op⟩) h h2
    split at h
    · rename_i hc
      rw [if_pos hc]
      exact slash_sh dp dg rf hk hs (s := ⟨l, parts, groups, refs, op⟩) h h1 h2 h3
    · rename_i hc
      rw [if_neg hc]
      split at h
      · rename_i hb
        rw [if_pos hb]
        rw [Option.bind_eq_some_iff] at h
        obtain ⟨p, hp, h⟩ := h
        rw [hp]
        exact leaf_sh dp dg rf (x := setN p.1) (s := ⟨(c :: l).drop p.2, parts, groups, refs, op⟩) h h2
      · rename_i hb
        rw [if_neg hb]
        split at h
        · rename_i hd
          rw [if_pos hd]
          exact lf h
        · rename_i hd
          rw [if_neg hd]
          split at h
          · rename_i hf
            rw [if_pos hf]
            exact lf h
          · rename_i hf
            rw [if_neg hf]
            split at h
            · rename_i hg
              rw [if_pos hg]
              exact lf h
            · rename_i hg
              rw [if_neg hg]
              split at h
              · cases h
              · rename_i hx
                rw [if_neg hx]
                exact lf h
end
set_option maxRecDepth 3000 in
theorem row_sh (n : Nat) : ∀ (first begun : Bool) (s : PS) (y : Fr × PS), rowV n first begun s = some y → y.2.refs = false → y.2.parts + dp ≤ 200 → y.2.groups + dg ≤ 9 → ∃ f, rowV n first begun (s.sh dp dg rf) = some (f, y.2.sh dp dg rf) ∧ f.len = y.1.len := by
  induction n with
  | zero => intro f b s y h; cases h
  | succ n ih =>
    intro f b s y h h1 h2 h3
    unfold rowV at h ⊢
    rw [show (s.sh dp dg rf).left = s.left from rfl]
    split at h
    · rename_i hq
      rw [if_pos hq]
      injection h with h; subst h; exact ⟨.nil, rfl, rfl⟩
    · rename_i hq
      rw [if_neg hq]
      rw [Option.bind_eq_some_iff] at h
      obtain ⟨a, p1, h⟩ := h
      rw [Option.bind_eq_some_iff] at h
      obtain ⟨c, p2, h⟩ := h
      rw [Option.map_eq_some_iff] at h
      obtain ⟨r, p3, rfl⟩ := h
      simp only [] at h1 h2 h3
      have k3 := rowV_kept n p3
      have k2 := more1_kept p2
      have f3 := not_true (row_refs n _ _ _ _ p3) h1
      have f2 : a.2.refs = false := (more1_refs p2).symm.trans f3
      have b1 := k3.parts; have b2 := k2.parts; have b3 := k3.groups; have b4 := k2.groups
      obtain ⟨z1, e1, q1⟩ := part_sh dp dg rf (fun s y h => rowV_kept n h) (fun s y h => ih true false s y h) p1 f2 (by omega) (by omega)
      obtain ⟨z2, e2, q2⟩ := more1_sh dp dg rf (x' := z1) p2 (by omega) q1.symm
      obtain ⟨f', e3, q3⟩ := ih _ _ _ _ p3 h1 h2 h3
      rw [e1]
      simp only [Option.bind_some]
      rw [e2]
      simp only [Option.bind_some]
      rw [q1, e3]
      exact ⟨.cons z2.1 z2.2 f', rfl, by simp [Fr.len, q3]⟩
end
set_option maxRecDepth 3000 in
theorem row_x (f1 b1 f2 b2 : Bool) (b : List UInt8) (p g : Nat) (r : Bool) (op : List Nat) : rowF f1 b1 ⟨120 :: b, p, g, r, op⟩ = rowF f2 b2 ⟨120 :: b, p, g, r, op⟩ := by
  rw [rowF_eq, rowF_eq f2 b2, part_plain (by simp [PlainB]), part_plain (by simp [PlainB])]
set_option maxRecDepth 3000 in
theorem pat_row {a b : List UInt8} {y z : Fr × PS} (he : EndOk a) (ha : patV a = some y) (hb : patV (120 :: b) = some z) (hr : z.2.refs = false) (hp : y.2.parts + z.2.parts ≤ 200) (hg : y.2.groups + z.2.groups ≤ 9) :
    ∃ x, patV (a ++ 120 :: b) = some x ∧ x.1.len = y.1.len + z.1.len ∧ x.2.parts = y.2.parts + z.2.parts ∧ x.2.groups = y.2.groups + z.2.groups ∧ x.2.refs = y.2.refs := by
  unfold patV at ha hb
  rw [Option.bind_eq_some_iff] at ha hb
  obtain ⟨y', a1, ha⟩ := ha
  obtain ⟨z', c1, hb⟩ := hb
  split at ha
  · rename_i ya
    injection ha with ha
    subst ha
    split at hb
    · rename_i za
      injection hb with hb
      subst hb
      have yl : y'.2.left = [] := by simpa using ya
      have yo : y'.2.op = [] := (rowF_kept a1).op
      obtain ⟨-, -, k⟩ := row_cat (b0 := b) _ _ _ _ _ (Nat.le_refl _) he a1
      obtain ⟨f2, b2, e⟩ := k yl
      have e1 : y'.2.cat (120 :: b) = (ps0 (120 :: b)).sh y'.2.parts y'.2.groups y'.2.refs := by
        unfold PS.cat PS.sh ps0
        simp [yl, yo]
      have e2 : rowF f2 b2 ((ps0 (120 :: b)).sh y'.2.parts y'.2.groups y'.2.refs) = rowF true false ((ps0 (120 :: b)).sh y'.2.parts y'.2.groups y'.2.refs) := row_x _ _ _ _ _ _ _ _ _
      obtain ⟨f, s1, s2⟩ := row_sh y'.2.parts y'.2.groups y'.2.refs _ _ _ _ _ c1 hr (by omega) (by omega)
      have s1 : rowF true false ((ps0 (120 :: b)).sh y'.2.parts y'.2.groups y'.2.refs) = some (f, z'.2.sh y'.2.parts y'.2.groups y'.2.refs) := s1
      rw [e1, e2, s1] at e
      have e : rowF true false (ps0 (a ++ 120 :: b)) = _ := e
      refine ⟨(y'.1.app f, z'.2.sh y'.2.parts y'.2.groups y'.2.refs), ?_, ?_, ?_, ?_, rfl⟩
      · unfold patV
        rw [e]
        simp only [Option.map_some, Option.bind_some]
        rw [if_pos (show (z'.2.sh y'.2.parts y'.2.groups y'.2.refs).left.isEmpty = true from za)]
      · simp only []; rw [Fr.len_app, s2]
      · simp only [PS.sh]; omega
      · simp only [PS.sh]; omega
    · cases hb
  · cases ha
end Go.Proofs.YtpignlkojlbhkaaDoor
