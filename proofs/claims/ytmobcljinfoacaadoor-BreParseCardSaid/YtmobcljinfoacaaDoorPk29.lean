/-
  Several texts of the proof: BreDoes, BreNoneL, BreNodesP.
-/
import Derived.Test.YtmobcljinfoacaaDoorPk28
/-
  The patterns' laws: the chapter's examples.
-/
namespace Go.Proofs.YtmobcljinfoacaaDoor
open Go.RowKit

set_option maxRecDepth 3000 in
theorem bre_yes {l : List UInt8} {y : Fr × PS} (hl : l.length ≤ 1000000) (hy : patV l = some y) (w : World) (hs : Sane w) (x : ByteArray) (hx : x = tx l) :
    Calls Tryd.prog 5 #[.string x] w fun e w' => ∃ g, e = .returned (.tuple #[.pointer (some ⟨g, 1, none⟩), .int .i64 0]) ∧ ReAt (fun b => w.heap.size ≤ b ∧ ¬ b = g) w' g y.1 y.2 ∧ w.heap.size ≤ g ∧ Grows w w' :=
  hx ▸ (bre_parse l w hl hs).mono fun e w' h => by rw [hy] at h; exact h
set_option maxRecDepth 3000 in
theorem bre_no {l : List UInt8} (hl : l.length ≤ 1000000) (hy : patV l = none) (w : World) (hs : Sane w) (x : ByteArray) (hx : x = tx l) :
    Calls Tryd.prog 5 #[.string x] w fun e w' => e = .returned (.tuple #[.pointer none, .int .i64 90]) ∧ Grows w w' :=
  hx ▸ (bre_parse l w hl hs).mono fun e w' h => by rw [hy] at h; exact h
set_option maxRecDepth 3000 in
theorem two_nodes : ∃ y, patV [97, 46, 42, 36] = some y ∧ y.1 = .cons (byteN 97) .nil (.cons (timesN 0 (-1)) (Fr.one (ndK 2) .nil) (.cons (ndK 5) .nil .nil)) ∧ y.2.parts = 4 ∧ y.2.refs = false := ⟨_, rfl, rfl, rfl, rfl⟩
set_option maxRecDepth 3000 in
set_option maxHeartbeats 1000000 in
theorem does_any (w : World) (hs : Sane w) : Calls Tryd.prog 11 #[] w fun e w' => e = .returned (.bool true) ∧ Grows w w' := by
  obtain ⟨y1, p1, q1, q2, q3⟩ := two_nodes
  obtain ⟨y2, p2, r1, r2⟩ := ex_two
  go_enter Tryd.func11, Tryd.ntmps11
  go_wp2_with fail
  (with_reducible refine (bre_yes (by decide) p1 w hs ⟨#[97, 46, 42, 36]⟩ rfl).mono ?_)
  rintro e w1 ⟨g1, rfl, R1, l1, k1⟩
  go_wp2_with fail
  (with_reducible refine (tree_any R1 (by rw [patV_size p1 |>.1]; have := (patV_size p1).2; omega)).mono ?_)
  rintro e w2 ⟨A, cap, rfl, hA, k2⟩
  have hs2 := (hs.grows k1).grows k2
  have R1 := R1.grows k2
  obtain ⟨f1, t1⟩ := y1
  obtain ⟨f2, t2⟩ := y2
  simp only [] at q1 q2 q3 r1 r2 R1 hA
  go_wp2_with fail
  (with_reducible refine (bre_yes (by decide) p2 w2 hs2 ⟨#[92, 40, 97, 98, 92, 41, 42, 92, 49]⟩ rfl).mono ?_)
  rintro e w3 ⟨g2, rfl, R2, l2, k3⟩
  simp only [] at R2
  have hs3 := hs2.grows k3
  have R1 := R1.grows k3
  have hA := hA.grows k3
  have hlen : f1.len = 3 := by rw [q1]; rfl
  obtain ⟨b, o, rfl, ib⟩ := hA.some (by omega)
  obtain ⟨K0, ck0, -, n0⟩ := hA.node (a := .nil) q1 rfl
  obtain ⟨K1, ck1, -, n1⟩ := hA.node (a := .cons (byteN 97) .nil .nil) q1 rfl
  obtain ⟨K2, ck2, -, n2⟩ := hA.node (a := .cons (byteN 97) .nil (.cons (timesN 0 (-1)) (Fr.one (ndK 2) Fr.nil) .nil)) q1 rfl
  have c00 : w3.cell? ⟨b, o, none⟩ = some (.int .i64 1) := n0 0 _ (ndA_0 _ _ _ _ _ _ _)
  have c01 : w3.cell? ⟨b, o + 1, none⟩ = some (.int .u8 97) := n0 1 _ (ndA_1 _ _ _ _ _ _ _)
  have c10 : w3.cell? ⟨b, o + 262, none⟩ = some (.int .i64 8) := n1 0 _ (ndA_0 _ _ _ _ _ _ _)
  have c15 : w3.cell? ⟨b, o + 522, none⟩ = some (.int .i64 (-1)) := n1 260 _ (ndA_260 _ _ _ _ _ _ _)
  have c20 : w3.cell? ⟨b, o + 524, none⟩ = some (.int .i64 5) := n2 0 _ (ndA_0 _ _ _ _ _ _ _)
  clear n0 n1 n2 q1 p1 hA
  go_wp2_with fail
  (with_reducible refine (bre_no (by decide) ex_none w3 hs3 ⟨#[92, 40, 97, 92, 49, 92, 41]⟩ rfl).mono ?_)
  rintro e w4 ⟨rfl, k4⟩
  have R1 := R1.grows k4
  have R2 := R2.grows k4
  have hc : ∀ {i v}, w3.cell? ⟨b, i, none⟩ = some v → w4.cell? ⟨b, i, none⟩ = some v := fun {i v} h => by
    obtain ⟨m, rfl⟩ := k4
    rw [cell_more _ _ _ (World.block_lt_of_cell? w3 _ h)]
    exact h
  have c00 := hc c00
  have c01 := hc c01
  have c10 := hc c10
  have c15 := hc c15
  have c20 := hc c20
  go_wp2_with fail
  (with_reducible refine (parts_any R1).mono ?_)
  rintro e w5 ⟨rfl, hw⟩
  subst hw
  go_wp2_with fail
  (with_reducible refine (groups_any R2).mono ?_)
  rintro e w5 ⟨rfl, hw⟩
  subst hw
  go_wp2_with fail
  (with_reducible refine (refs_any R2).mono ?_)
  rintro e w5 ⟨rfl, hw⟩
  subst hw
  go_wp2_with fail
  (with_reducible refine (refs_any R1).mono ?_)
  rintro e w5 ⟨rfl, hw⟩
  subst hw
  go_wp2_with fail
  go_ret
  exact ⟨rfl, ((k1.trans k2).trans k3).trans k4⟩
end Go.Proofs.YtmobcljinfoacaaDoor

/-
  The law BreNone, walked.
-/
namespace Go.Proofs.YtmobcljinfoacaaDoor
open Go.RowKit

end Go.Proofs.YtmobcljinfoacaaDoor

/-
  Patterns: what the nodes of a text have, in plain words.
-/
namespace Go.Proofs.YtmobcljinfoacaaDoor
open Go.RowKit

/-- What a walk over nodes knows. -/
structure WS where
  groups : Nat
  ended : Nat → Bool
  refs : Bool
def orAt (p : Nat → Bool) (n : Nat) : Nat → Bool := fun i => p i || decide (i = n)
set_option maxRecDepth 3000 in
theorem orAt_iff (p : Nat → Bool) (n i : Nat) : orAt p n i = true ↔ p i = true ∨ i = n := by simp [orAt]
/-- A walk over nodes that finds nothing bad. -/
def GoodF : Fr → WS → WS → Prop
  | .nil, s, t => t = s
  | .cons x k r, s, t => ∃ m, ((x.kind = 7 ∧ x.n = s.groups + 1 ∧ x.n ≤ 9 ∧ ∃ m1, GoodF k { s with groups := s.groups + 1 } m1 ∧ m = { m1 with ended := orAt m1.ended x.n }) ∨
      (x.kind = 6 ∧ 1 ≤ x.n ∧ x.n ≤ 9 ∧ s.ended x.n = true ∧ k = .nil ∧ m = { s with refs := true }) ∨
      (x.kind = 8 ∧ k.len = 1 ∧ x.mn ≤ 255 ∧ -1 ≤ x.mx ∧ x.mx ≤ 255 ∧ (x.mx < 0 ∨ (x.mn : Int) ≤ x.mx) ∧ GoodF k s m) ∨
      (1 ≤ x.kind ∧ x.kind ≤ 5 ∧ k = .nil ∧ m = s)) ∧ GoodF r m t
/-- One node. -/
def GoodN (x : Nk) (s t : WS) : Prop := GoodF (Fr.one x.1 x.2) s t
set_option maxRecDepth 3000 in
theorem GoodF.one {x : NdV} {k : Fr} {s t : WS} (h : GoodF (Fr.one x k) s t) : (x.kind = 7 ∧ x.n = s.groups + 1 ∧ x.n ≤ 9 ∧ ∃ m1, GoodF k { s with groups := s.groups + 1 } m1 ∧ t = { m1 with ended := orAt m1.ended x.n }) ∨
      (x.kind = 6 ∧ 1 ≤ x.n ∧ x.n ≤ 9 ∧ s.ended x.n = true ∧ k = .nil ∧ t = { s with refs := true }) ∨
      (x.kind = 8 ∧ k.len = 1 ∧ x.mn ≤ 255 ∧ -1 ≤ x.mx ∧ x.mx ≤ 255 ∧ (x.mx < 0 ∨ (x.mn : Int) ≤ x.mx) ∧ GoodF k s t) ∨
      (1 ≤ x.kind ∧ x.kind ≤ 5 ∧ k = .nil ∧ t = s) := by
  obtain ⟨m, h, e⟩ := h
  have e : t = m := e
  subst e
  exact h
set_option maxRecDepth 3000 in
theorem GoodF.cons {x : NdV} {k r : Fr} {s m t : WS} (h : GoodN (x, k) s m) (hr : GoodF r m t) : GoodF (.cons x k r) s t := ⟨m, h.one, hr⟩
set_option maxRecDepth 3000 in
theorem GoodF.uncons {x : NdV} {k r : Fr} {s t : WS} (h : GoodF (.cons x k r) s t) : ∃ m, GoodN (x, k) s m ∧ GoodF r m t := by
  obtain ⟨m, h, hr⟩ := h
  exact ⟨m, ⟨m, h, rfl⟩, hr⟩
set_option maxRecDepth 3000 in
theorem GoodF.leaf {x : NdV} (h1 : 1 ≤ x.kind) (h2 : x.kind ≤ 5) (s : WS) : GoodN (x, .nil) s s := ⟨s, .inr (.inr (.inr ⟨h1, h2, rfl, rfl⟩)), rfl⟩
/-- What the parser knows is what the walk knows. -/
structure Meet (s : PS) (v : WS) : Prop where
  groups : v.groups = s.groups
  refs : v.refs = s.refs
  ended : ∀ n, 1 ≤ n → n ≤ 9 → (v.ended n = true ↔ n ≤ s.groups ∧ n ∉ s.op)
  op : ∀ n ∈ s.op, n ≤ s.groups
set_option maxRecDepth 3000 in
theorem Meet.same {s t : PS} {v : WS} (h : Meet s v) (h1 : t.groups = s.groups) (h2 : t.refs = s.refs) (h3 : t.op = s.op) : Meet t v :=
  ⟨h.groups.trans h1.symm, h.refs.trans h2.symm, by rw [h1, h3]; exact h.ended, by rw [h1, h3]; exact h.op⟩
set_option maxRecDepth 3000 in
theorem node1_same {s t : PS} (h : node1 s = some t) : t.groups = s.groups ∧ t.refs = s.refs ∧ t.op = s.op := by
  obtain ⟨_, rfl⟩ := node1_eq h
  exact ⟨rfl, rfl, rfl⟩
def RowGood (row : PS → Option (Fr × PS)) : Prop := ∀ s y, row s = some y → ∀ v, Meet s v → ∃ v', GoodF y.1 v v' ∧ Meet y.2 v'
set_option maxRecDepth 3000 in
theorem bounds_good {l : List UInt8} {b : Nat × Int × List UInt8} (h : boundsV l = some b) : b.1 ≤ 255 ∧ -1 ≤ b.2.1 ∧ b.2.1 ≤ 255 ∧ (b.2.1 < 0 ∨ (b.1 : Int) ≤ b.2.1) := by
  unfold boundsV at h
  simp only [] at h
  split at h
  · rename_i hc
    injection h with h
    subst h
    refine ⟨hc.2.2.1, ?_, hc.2.2.2.1, hc.2.2.2.2⟩
    simp only []
    unfold mostV
    split
    · split <;> simp only [] <;> omega
    · simp only []; omega
  · cases h
set_option maxRecDepth 3000 in
theorem times_good {n : Nat} : ∀ {x : Nk} {s : PS} {y : Nk × PS}, timesV n x s = some y → ∀ {v v' : WS}, GoodN x v v' → Meet s v' → GoodN y.1 v v' ∧ Meet y.2 v' := by
  induction n with
  | zero => intro x s y h; cases h
  | succ n ih =>
    intro x s y h v v' hx hm
    unfold timesV at h
    split at h
    · rw [Option.bind_eq_some_iff] at h
      obtain ⟨t, h1, h2⟩ := h
      obtain ⟨q1, q2, q3⟩ := node1_same h1
      exact ih h2 ⟨v', .inr (.inr (.inl ⟨rfl, rfl, Nat.zero_le _, Int.le_refl _, (by decide : (-1 : Int) ≤ 255), .inl (by decide : (-1 : Int) < 0), hx⟩)), rfl⟩ (hm.same q1 q2 q3)
    · split at h
      · rw [Option.bind_eq_some_iff] at h
        obtain ⟨b, hb, h⟩ := h
        rw [Option.bind_eq_some_iff] at h
        obtain ⟨t, h1, h2⟩ := h
        obtain ⟨q1, q2, q3⟩ := node1_same h1
        obtain ⟨b1, b2, b3, b4⟩ := bounds_good hb
        exact ih h2 ⟨v', .inr (.inr (.inl ⟨rfl, rfl, b1, b2, b3, b4, hx⟩)), rfl⟩ (hm.same q1 q2 q3)
      · injection h with h; subst h; exact ⟨hx, hm⟩
set_option maxRecDepth 3000 in
theorem more1_good {x : Nk} {s : PS} {y : Nk × PS} (h : more1 x s = some y) {v v' : WS} (hx : GoodN x v v') (hm : Meet s v') : GoodN y.1 v v' ∧ Meet y.2 v' := by
  unfold more1 at h
  split at h
  · injection h with h; subst h; exact ⟨hx, hm⟩
  · exact times_good h hx hm
set_option maxRecDepth 3000 in
theorem leaf_good {s : PS} {x : NdV} {y : Nk × PS} (h1 : 1 ≤ x.kind) (h2 : x.kind ≤ 5) (h : (node1 s).map (fun s => ((x, Fr.nil), s)) = some y) {v : WS} (hm : Meet s v) : ∃ v', GoodN y.1 v v' ∧ Meet y.2 v' := by
  rw [Option.map_eq_some_iff] at h
  obtain ⟨t, h3, rfl⟩ := h
  obtain ⟨q1, q2, q3⟩ := node1_same h3
  exact ⟨v, GoodF.leaf h1 h2 v, hm.same q1 q2 q3⟩
section
variable {row : PS → Option (Fr × PS)}
set_option maxRecDepth 3000 in
theorem groupV_good (hk : RowOk row) (hr : RowGood row) {s : PS} {y : Nk × PS} (h : groupV row s = some y) {v : WS} (hm : Meet s v) : ∃ v', GoodN y.1 v v' ∧ Meet y.2 v' := by
  unfold groupV at h
  split at h
  · rename_i h9
    rw [Option.bind_eq_some_iff] at h
    obtain ⟨t, h1, h⟩ := h
    rw [Option.bind_eq_some_iff] at h
    obtain ⟨z, h2, h⟩ := h
    split at h
    · injection h with h
      subst h
      obtain ⟨_, rfl⟩ := node1_eq h1
      have k := hk _ _ h2
      have kop := k.op
      have kg := k.groups
      simp only [] at kop kg
      obtain ⟨v1, g1, m1⟩ := hr _ _ h2 { v with groups := v.groups + 1 } ⟨by simp only []; rw [hm.groups], hm.refs, fun n n1 n9 => by
        simp only [List.mem_append, List.mem_singleton]
        rw [hm.ended n n1 n9]
        constructor
        · rintro ⟨a, b⟩; exact ⟨by omega, fun c => c.elim b (by omega)⟩
        · rintro ⟨a, b⟩
          have : n ≠ s.groups + 1 := fun e => b (.inr e)
          exact ⟨by omega, fun c => b (.inl c)⟩, fun n hn => by
        simp only [List.mem_append, List.mem_singleton] at hn
        simp only []
        rcases hn with hn | rfl
        · have := hm.op n hn; omega
        · omega⟩
      have hg := hm.groups
      refine ⟨{ v1 with ended := orAt v1.ended (groupN (s.groups + 1)).n }, ⟨_, .inl ⟨rfl, by simp only [groupN, ndK]; omega, h9, v1, g1, rfl⟩, rfl⟩, m1.groups, m1.refs, fun n n1 n9 => ?_, fun n hn => ?_⟩
      · simp only [orAt_iff, groupN, kop, List.dropLast_concat]
        have := m1.ended n n1 n9
        rw [kop] at this
        simp only [List.mem_append, List.mem_singleton] at this
        rw [this]
        constructor
        · rintro (⟨a, b⟩ | rfl)
          · exact ⟨a, fun c => b (.inl c)⟩
          · exact ⟨kg, fun c => by have := hm.op _ c; omega⟩
        · rintro ⟨a, b⟩
          by_cases e : n = s.groups + 1
          · exact .inr e
          · exact .inl ⟨a, fun c => c.elim b e⟩
      · simp only [kop, List.dropLast_concat] at hn
        have := hm.op n hn
        simp only []
        omega
    · cases h
  · cases h
set_option maxRecDepth 3000 in
theorem slashV_good (hk : RowOk row) (hr : RowGood row) {s : PS} {y : Nk × PS} (h : slashV row s = some y) {v : WS} (hm : Meet s v) : ∃ v', GoodN y.1 v v' ∧ Meet y.2 v' := by
  obtain ⟨left, parts, groups, refs, op⟩ := s
  cases left with
  | nil => cases h
  | cons c l =>
    unfold slashV at h
    simp only [] at h
    split at h
    · exact groupV_good hk hr h (hm.same rfl rfl rfl)
    · split at h
      · rename_i hd
        split at h
        · rename_i hc
          rw [Option.map_eq_some_iff] at h
          obtain ⟨t, h1, rfl⟩ := h
          obtain ⟨_, rfl⟩ := node1_eq h1
          have he := (hm.ended (c.toNat - 48) (by omega) (by omega)).2 hc
          exact ⟨{ v with refs := true }, ⟨_, .inr (.inl ⟨rfl, by simp only [refN, ndK]; omega, by simp only [refN, ndK]; omega, he, rfl, rfl⟩), rfl⟩, ⟨hm.groups, rfl, hm.ended, hm.op⟩⟩
        · cases h
      · split at h
        · cases h
        · exact leaf_good (x := byteN c.toNat) (Nat.le_refl 1) (by decide : (1 : Nat) ≤ 5) h (hm.same rfl rfl rfl)
set_option maxRecDepth 3000 in
theorem partW_good (hk : RowOk row) (hr : RowGood row) {first begun : Bool} {s : PS} {y : Nk × PS} (h : partW row first begun s = some y) {v : WS} (hm : Meet s v) : ∃ v', GoodN y.1 v v' ∧ Meet y.2 v' := by
  obtain ⟨left, parts, groups, refs, op⟩ := s
  cases left with
  | nil => cases h
  | cons c l =>
    unfold partW at h
    simp only [] at h
    split at h
    · exact slashV_good hk hr h (hm.same rfl rfl rfl)
    · split at h
      · rw [Option.bind_eq_some_iff] at h
        obtain ⟨p, hp, h⟩ := h
        exact leaf_good (x := setN p.1) (by decide : (1 : Nat) ≤ 3) (by decide : (3 : Nat) ≤ 5) h (hm.same rfl rfl rfl)
      · split at h
        · exact leaf_good (x := ndK 2) (by decide) (by decide) h (hm.same rfl rfl rfl)
        · split at h
          · exact leaf_good (x := ndK 4) (by decide) (by decide) h (hm.same rfl rfl rfl)
          · split at h
            · exact leaf_good (x := ndK 5) (by decide) (by decide) h (hm.same rfl rfl rfl)
            · split at h
              · cases h
              · exact leaf_good (x := byteN c.toNat) (Nat.le_refl 1) (by decide : (1 : Nat) ≤ 5) h (hm.same rfl rfl rfl)
end
set_option maxRecDepth 3000 in
theorem rowV_good (n : Nat) : ∀ (first begun : Bool) (s : PS) (y : Fr × PS), rowV n first begun s = some y → ∀ v, Meet s v → ∃ v', GoodF y.1 v v' ∧ Meet y.2 v' := by
  induction n with
  | zero => intro f b s y h; cases h
  | succ n ih =>
    intro f b s y h v hm
    unfold rowV at h
    split at h
    · injection h with h; subst h; exact ⟨v, rfl, hm⟩
    · rw [Option.bind_eq_some_iff] at h
      obtain ⟨a, h1, h⟩ := h
      rw [Option.bind_eq_some_iff] at h
      obtain ⟨c, h2, h⟩ := h
      rw [Option.map_eq_some_iff] at h
      obtain ⟨r, h3, rfl⟩ := h
      obtain ⟨v1, g1, m1⟩ := partW_good (fun _ _ h => rowV_kept n h) (fun s y h => ih true false s y h) h1 hm
      obtain ⟨g2, m2⟩ := more1_good h2 g1 m1
      obtain ⟨v3, g3, m3⟩ := ih _ _ _ _ h3 v1 m2
      exact ⟨v3, GoodF.cons g2 g3, m3⟩
def ws0 : WS := ⟨0, fun _ => false, false⟩
set_option maxRecDepth 3000 in
theorem patV_good {l : List UInt8} {y : Fr × PS} (h : patV l = some y) : ∃ v, GoodF y.1 ws0 v ∧ v.groups = y.2.groups ∧ v.refs = y.2.refs := by
  unfold patV at h
  rw [Option.bind_eq_some_iff] at h
  obtain ⟨z, h1, h⟩ := h
  split at h
  · injection h with h
    subst h
    obtain ⟨v, g, m⟩ := rowV_good _ _ _ _ _ h1 ws0 ⟨rfl, rfl, fun n n1 _ => by simp [ws0, ps0]; omega, by simp [ps0]⟩
    exact ⟨v, g, m.groups, m.refs⟩
  · cases h
set_option maxRecDepth 3000 in
theorem GoodF.nine : ∀ {f : Fr} {s t : WS}, GoodF f s t → s.groups ≤ 9 → t.groups ≤ 9
  | .nil, s, t, h, k => by rw [show t = s from h]; exact k
  | .cons x kk r, s, t, h, k => by
    obtain ⟨m, h, hr⟩ := h
    refine GoodF.nine hr ?_
    rcases h with ⟨_, hn, h9, m1, g, rfl⟩ | ⟨_, _, _, _, _, rfl⟩ | ⟨_, _, _, _, _, _, g⟩ | ⟨_, _, _, rfl⟩
    · have : m1.groups ≤ 9 := GoodF.nine (f := kk) g (by simp only []; omega)
      exact this
    · exact k
    · exact GoodF.nine g k
    · exact k
set_option maxRecDepth 3000 in
theorem patV_nine {l : List UInt8} {y : Fr × PS} (h : patV l = some y) : y.2.groups ≤ 9 := by
  obtain ⟨v, g, e, _⟩ := patV_good h
  rw [← e]
  exact g.nine (by simp [ws0])
end Go.Proofs.YtmobcljinfoacaaDoor
