/-
  Several texts of the proof: BreSize, BreLawS, BreZero, BreCell, BreDoes, BreNoneL.
-/
import Derived.Test.YtmobcljinfoacaaDoorPk38
/-
  Patterns: as many nodes as parts were counted.
-/
namespace Go.Proofs.YtmobcljinfoacaaDoor
open Go.RowKit

set_option maxRecDepth 3000 in
theorem node1_parts {s t : PS} (h : node1 s = some t) : t.parts = s.parts + 1 ∧ t.parts ≤ 200 := by
  obtain ⟨h1, rfl⟩ := node1_eq h
  exact ⟨rfl, h1⟩
set_option maxRecDepth 3000 in
theorem one_size (x : NdV) (k : Fr) : (Fr.one x k).size = k.size + 1 := by simp [Fr.one, Fr.size]
set_option maxRecDepth 3000 in
theorem timesV_size {n : Nat} : ∀ {x : Nk} {s : PS} {y : Nk × PS}, timesV n x s = some y → y.1.2.size + s.parts = x.2.size + y.2.parts ∧ (s.parts ≤ 200 → y.2.parts ≤ 200) := by
  induction n with
  | zero => intro x s y h; cases h
  | succ n ih =>
    intro x s y h
    unfold timesV at h
    split at h
    · rw [Option.bind_eq_some_iff] at h
      obtain ⟨t, h1, h2⟩ := h
      have k1 := node1_parts h1
      have k2 := ih h2
      simp only [one_size] at k1 k2
      omega
    · split at h
      · rw [Option.bind_eq_some_iff] at h
        obtain ⟨b, hb, h⟩ := h
        rw [Option.bind_eq_some_iff] at h
        obtain ⟨t, h1, h2⟩ := h
        have k1 := node1_parts h1
        have k2 := ih h2
        simp only [one_size] at k1 k2
        omega
      · injection h with h; subst h; exact ⟨rfl, fun h => h⟩
set_option maxRecDepth 3000 in
theorem more1_size {x : Nk} {s : PS} {y : Nk × PS} (h : more1 x s = some y) : y.1.2.size + s.parts = x.2.size + y.2.parts ∧ (s.parts ≤ 200 → y.2.parts ≤ 200) := by
  unfold more1 at h
  split at h
  · injection h with h; subst h; exact ⟨rfl, fun h => h⟩
  · exact timesV_size h
def RowSz (row : PS → Option (Fr × PS)) : Prop := ∀ s y, row s = some y → y.1.size + s.parts = y.2.parts ∧ (s.parts ≤ 200 → y.2.parts ≤ 200)
section
variable {row : PS → Option (Fr × PS)}
set_option maxRecDepth 3000 in
theorem selfV_size {c : Nat} {s : PS} {y : Nk × PS} (h : selfV c s = some y) : y.1.2.size + s.parts + 1 = y.2.parts ∧ y.2.parts ≤ 200 := by
  unfold selfV at h
  rw [Option.map_eq_some_iff] at h
  obtain ⟨t, h1, rfl⟩ := h
  have := node1_parts h1
  simp [Fr.size]; omega
set_option maxRecDepth 3000 in
theorem leaf_size {s : PS} {x : NdV} {y : Nk × PS} (h : (node1 s).map (fun s => ((x, Fr.nil), s)) = some y) : y.1.2.size + s.parts + 1 = y.2.parts ∧ y.2.parts ≤ 200 := by
  rw [Option.map_eq_some_iff] at h
  obtain ⟨t, h1, rfl⟩ := h
  have := node1_parts h1
  simp [Fr.size]; omega
set_option maxRecDepth 3000 in
theorem groupV_size (hr : RowSz row) {s : PS} {y : Nk × PS} (h : groupV row s = some y) : y.1.2.size + s.parts + 1 = y.2.parts ∧ y.2.parts ≤ 200 := by
  unfold groupV at h
  split at h
  · rw [Option.bind_eq_some_iff] at h
    obtain ⟨t, h1, h⟩ := h
    rw [Option.bind_eq_some_iff] at h
    obtain ⟨z, h2, h⟩ := h
    split at h
    · injection h with h
      subst h
      have k1 := node1_parts h1
      have k := hr _ _ h2
      simp only [] at k k1 ⊢
      omega
    · cases h
  · cases h
set_option maxRecDepth 3000 in
theorem slashV_size (hr : RowSz row) {s : PS} {y : Nk × PS} (h : slashV row s = some y) : y.1.2.size + s.parts + 1 = y.2.parts ∧ y.2.parts ≤ 200 := by
  obtain ⟨left, parts, groups, refs, op⟩ := s
  cases left with
  | nil => cases h
  | cons c l =>
    unfold slashV at h
    simp only [] at h
    split at h
    · (have k := groupV_size hr h; exact k)
    · split at h
      · split at h
        · (have k := leaf_size h; exact k)
        · cases h
      · split at h
        · cases h
        · (have k := selfV_size h; exact k)
set_option maxRecDepth 3000 in
theorem partW_size (hr : RowSz row) {first begun : Bool} {s : PS} {y : Nk × PS} (h : partW row first begun s = some y) : y.1.2.size + s.parts + 1 = y.2.parts ∧ y.2.parts ≤ 200 := by
  obtain ⟨left, parts, groups, refs, op⟩ := s
  cases left with
  | nil => cases h
  | cons c l =>
    unfold partW at h
    simp only [] at h
    split at h
    · (have k := slashV_size hr h; exact k)
    · split at h
      · rw [Option.bind_eq_some_iff] at h
        obtain ⟨p, hp, h⟩ := h
        (have k := leaf_size h; exact k)
      · split at h
        · (have k := leaf_size h; exact k)
        · split at h
          · (have k := leaf_size h; exact k)
          · split at h
            · (have k := leaf_size h; exact k)
            · split at h
              · cases h
              · (have k := selfV_size h; exact k)
end
set_option maxRecDepth 3000 in
theorem rowV_size (n : Nat) : ∀ {first begun : Bool} {s : PS} {y : Fr × PS}, rowV n first begun s = some y → y.1.size + s.parts = y.2.parts ∧ (s.parts ≤ 200 → y.2.parts ≤ 200) := by
  induction n with
  | zero => intro f b s y h; cases h
  | succ n ih =>
    intro f b s y h
    unfold rowV at h
    split at h
    · injection h with h; subst h; exact ⟨by simp [Fr.size], fun h => h⟩
    · rw [Option.bind_eq_some_iff] at h
      obtain ⟨a, h1, h⟩ := h
      rw [Option.bind_eq_some_iff] at h
      obtain ⟨c, h2, h⟩ := h
      rw [Option.map_eq_some_iff] at h
      obtain ⟨r, h3, rfl⟩ := h
      have k1 := partW_size (fun s y h => ih h) h1
      have k2 := more1_size h2
      have k3 : r.1.size + c.2.parts = r.2.parts ∧ (c.2.parts ≤ 200 → r.2.parts ≤ 200) := ih h3
      simp only [Fr.size]
      omega
set_option maxRecDepth 3000 in
/-- A pattern has as many nodes as parts. -/
theorem patV_size {l : List UInt8} {y : Fr × PS} (h : patV l = some y) : y.1.size = y.2.parts ∧ y.2.parts ≤ 200 := by
  unfold patV at h
  rw [Option.bind_eq_some_iff] at h
  obtain ⟨z, h1, h2⟩ := h
  have := rowV_size _ h1
  split at h2
  · injection h2 with h2; subst h2; simpa [ps0] using this
  · cases h2
end Go.Proofs.YtmobcljinfoacaaDoor

/-
  The patterns' laws: small helpers walked.
-/
namespace Go.Proofs.YtmobcljinfoacaaDoor
open Go.RowKit

/-- Is a byte special behind a backslash? -/
def specialB (c : Nat) : Bool := decide (c = 40 ∨ c = 41 ∨ c = 123 ∨ c = 125 ∨ 49 ≤ c ∧ c ≤ 57)
end Go.Proofs.YtmobcljinfoacaaDoor

/-
  Patterns: what is asked of one that Parse did not make.
-/
namespace Go.Proofs.YtmobcljinfoacaaDoor
open Go.RowKit

/-- A pattern without anything, in a block of its own. -/
structure ReZ (w : World) (g : Nat) : Prop where
  tree : w.cell? ⟨g, 0, none⟩ = some (.slice none 0 0)
  groups : w.cell? ⟨g, 1, none⟩ = some (.int .i64 0)
  parts : w.cell? ⟨g, 2, none⟩ = some (.int .i64 0)
  refs : w.cell? ⟨g, 3, none⟩ = some (.bool false)
section
variable {w : World} {g : Nat}
set_option maxRecDepth 3000 in
theorem ReZ.grows {w' : World} (h : ReZ w g) (hg : Grows w w') : ReZ w' g := by
  have hc : ∀ {i v}, w.cell? ⟨g, i, none⟩ = some v → w'.cell? ⟨g, i, none⟩ = some v := fun {i v} h => by
    obtain ⟨m, rfl⟩ := hg
    rw [cell_more _ _ _ (World.block_lt_of_cell? w _ h)]
    exact h
  exact ⟨hc h.tree, hc h.groups, hc h.parts, hc h.refs⟩
set_option maxRecDepth 3000 in
theorem groups_zero (h : ReZ w g) : Calls Tryd.prog 8 #[.pointer (some ⟨g, 0, none⟩)] w fun e w' => e = .returned (.int .i64 0) ∧ w = w' := by
  have h1 := h.groups
  have ig : InHeap g w := World.block_lt_of_cell? _ _ h1
  go_enter Tryd.func8, Tryd.ntmps8
  go_wp2_with fail
  go_ret
  exact ⟨rfl, rfl⟩
set_option maxRecDepth 3000 in
theorem parts_zero (h : ReZ w g) : Calls Tryd.prog 10 #[.pointer (some ⟨g, 0, none⟩)] w fun e w' => e = .returned (.int .i64 0) ∧ w = w' := by
  have h1 := h.parts
  have ig : InHeap g w := World.block_lt_of_cell? _ _ h1
  go_enter Tryd.func10, Tryd.ntmps10
  go_wp2_with fail
  go_ret
  exact ⟨rfl, rfl⟩
set_option maxRecDepth 3000 in
theorem refs_zero (h : ReZ w g) : Calls Tryd.prog 9 #[.pointer (some ⟨g, 0, none⟩)] w fun e w' => e = .returned (.bool false) ∧ w = w' := by
  have h1 := h.refs
  have ig : InHeap g w := World.block_lt_of_cell? _ _ h1
  go_enter Tryd.func9, Tryd.ntmps9
  go_wp2_with fail
  go_ret
  exact ⟨rfl, rfl⟩
set_option maxRecDepth 3000 in
theorem tree_zero (h : ReZ w g) : Calls Tryd.prog 7 #[.pointer (some ⟨g, 0, none⟩)] w (Twin2 w .nil) := by
  have h1 := h.tree
  have ig : InHeap g w := World.block_lt_of_cell? _ _ h1
  have hcall := twin_none w
  go_enter Tryd.func7, Tryd.ntmps7
  go_wp2_with fail
  (with_reducible refine hcall.mono ?_)
  rintro e w1 ⟨A2, cap2, rfl, hf2, hg2⟩
  have hf2 := Lib.hid hf2
  clear hcall
  go_wp2_with fail
  go_ret
  exact ⟨A2, cap2, rfl, hf2.out, hg2⟩
end
end Go.Proofs.YtmobcljinfoacaaDoor

/-
  Patterns: a node's cells within a row.
-/
namespace Go.Proofs.YtmobcljinfoacaaDoor
open Go.RowKit

set_option maxRecDepth 3000 in
theorem FrRow.node {ok : Nat → Prop} {w : World} {x : NdV} {kids rest : Fr} : ∀ {a : Fr} {xs : List Value}, FrRow ok w (a.app (.cons x kids rest)) xs →
    ∃ K capk, FrAt ok w K capk kids ∧ ∀ j u, (ndC x (.slice K kids.len capk))[j]? = some u → xs[a.len * 262 + j]? = some u := by
  intro a
  induction a with
  | nil =>
    intro xs h
    obtain ⟨K, capk, ys, zs, e, h1, h2, h3⟩ := FrRow.head h
    refine ⟨K, capk, ⟨ys, h1, h2⟩, fun j u hu => ?_⟩
    have hj := (Array.getElem?_eq_some_iff.1 hu).1
    rw [e, Fr.len, Nat.zero_mul, Nat.zero_add, List.getElem?_append_left (by simpa using hj), Array.getElem?_toList]
    exact hu
  | cons z k r _ ihr =>
    intro xs h
    obtain ⟨K0, cap0, ys, zs, e, h1, h2, h3⟩ := FrRow.head h
    obtain ⟨K, capk, h4, h5⟩ := ihr h3
    refine ⟨K, capk, h4, fun j u hu => ?_⟩
    have hz : (ndC z (.slice K0 k.len cap0)).toList.length = 262 := by simp [ndA_size]
    have hu2 := h5 j u hu
    rw [e]
    generalize (ndC z (.slice K0 k.len cap0)).toList = zl at hz
    have hi : (Fr.cons z k r).len * 262 + j = zl.length + (r.len * 262 + j) := by rw [hz, Fr.len]; omega
    rw [hi, List.getElem?_append_right (Nat.le_add_right _ _), Nat.add_sub_cancel_left]
    exact hu2
set_option maxRecDepth 3000 in
/-- A node's cells within a row that can be read; its kids. -/
theorem FrAt.node {ok : Nat → Prop} {w : World} {A : Option Addr} {cap : Nat} {x : NdV} {kids rest a f : Fr} (h : FrAt ok w A cap f) (e : f = a.app (.cons x kids rest)) {b o : Nat} (hA : A = some ⟨b, o, none⟩) :
    ∃ K capk, FrAt ok w K capk kids ∧ ∀ j u, (ndC x (.slice K kids.len capk))[j]? = some u → w.cell? ⟨b, o + (a.len * 262 + j), none⟩ = some u := by
  subst e
  obtain ⟨xs, h1, h2⟩ := h
  obtain ⟨K, capk, h3, h4⟩ := h2.node
  refine ⟨K, capk, h3, fun j u hu => ?_⟩
  have hlt : 0 < (a.app (.cons x kids rest)).len := by rw [Fr.len_app, Fr.len]; omega
  obtain ⟨b', o', e, _, hc⟩ := h1.rd.2 hlt
  have hu2 := h4 j u hu
  clear h4 hu h1 h2
  have e2 : (⟨b, o, none⟩ : Addr) = ⟨b', o', none⟩ := Option.some.inj (hA.symm.trans e)
  have e3 : b = b' := congrArg Addr.block e2
  have e4 : o = o' := congrArg Addr.off e2
  rw [e3, e4]
  exact hc (a.len * 262 + j) u hu2
set_option maxRecDepth 3000 in
theorem FrAt.some {ok : Nat → Prop} {w : World} {A : Option Addr} {cap : Nat} {f : Fr} (h : FrAt ok w A cap f) (hp : 0 < f.len) : ∃ b o, A = some ⟨b, o, none⟩ ∧ InHeap b w := by
  obtain ⟨xs, h1, h2⟩ := h
  obtain ⟨b, o, e, hb, _⟩ := h1.rd.2 hp
  exact ⟨b, o, e, hb⟩
end Go.Proofs.YtmobcljinfoacaaDoor

/-
  The patterns' laws: the chapter's examples.
-/
namespace Go.Proofs.YtmobcljinfoacaaDoor
open Go.RowKit

set_option maxRecDepth 3000 in
theorem bre_yes {l : List UInt8} {y : Fr × PS} (hl : l.length ≤ 1000000) (hy : patV l = some y) (w : World) (hs : Sane w) (x : ByteArray) (hx : x = tx l) :
    Calls Tryd.prog 5 #[.string x] w fun e w' => ∃ g, e = .returned (.tuple #[.pointer (some ⟨g, 1, none⟩), .int .i64 0]) ∧ ReAt (fun b => w.heap.size ≤ b ∧ ¬ b = g) w' g y.1 y.2 ∧ w.heap.size ≤ g ∧ Grows w w' :=
  hx ▸ (bre_parse l w hl hs).mono fun e w' h => by rw [hy] at h; exact h
set_option maxRecDepth 3000 in
theorem bre_no {l : List UInt8} (hl : l.length ≤ 1000000) (hy : patV l = none) (w : World) (hs : Sane w) (x : ByteArray) (hx : x = tx l) :
    Calls Tryd.prog 5 #[.string x] w fun e w' => e = .returned (.tuple #[.pointer none, .int .i64 90]) ∧ Grows w w' :=
  hx ▸ (bre_parse l w hl hs).mono fun e w' h => by rw [hy] at h; exact h
set_option maxRecDepth 3000 in
theorem two_nodes : ∃ y, patV [97, 46, 42, 36] = some y ∧ y.1 = .cons (byteN 97) .nil (.cons (timesN 0 (-1)) (Fr.one (ndK 2) .nil) (.cons (ndK 5) .nil .nil)) ∧ y.2.parts = 4 ∧ y.2.refs = false := ⟨_, rfl, rfl, rfl, rfl⟩
set_option maxRecDepth 3000 in
set_option maxHeartbeats 1000000 in
theorem does_any (w : World) (hs : Sane w) : Calls Tryd.prog 11 #[] w fun e w' => e = .returned (.bool true) ∧ Grows w w' := by
  obtain ⟨y1, p1, q1, q2, q3⟩ := two_nodes
  obtain ⟨y2, p2, r1, r2⟩ := ex_two
  go_enter Tryd.func11, Tryd.ntmps11
  go_wp2_with fail
  (with_reducible refine (bre_yes (by decide) p1 w hs ⟨#[97, 46, 42, 36]⟩ rfl).mono ?_)
  rintro e w1 ⟨g1, rfl, R1, l1, k1⟩
  go_wp2_with fail
  (with_reducible refine (tree_any R1 (by rw [patV_size p1 |>.1]; have := (patV_size p1).2; omega)).mono ?_)
  rintro e w2 ⟨A, cap, rfl, hA, k2⟩
  have hs2 := (hs.grows k1).grows k2
  have R1 := R1.grows k2
  obtain ⟨f1, t1⟩ := y1
  obtain ⟨f2, t2⟩ := y2
  simp only [] at q1 q2 q3 r1 r2 R1 hA
  go_wp2_with fail
  (with_reducible refine (bre_yes (by decide) p2 w2 hs2 ⟨#[92, 40, 97, 98, 92, 41, 42, 92, 49]⟩ rfl).mono ?_)
  rintro e w3 ⟨g2, rfl, R2, l2, k3⟩
  simp only [] at R2
  have hs3 := hs2.grows k3
  have R1 := R1.grows k3
  have hA := hA.grows k3
  have hlen : f1.len = 3 := by rw [q1]; rfl
  obtain ⟨b, o, rfl, ib⟩ := hA.some (by omega)
  obtain ⟨K0, ck0, -, n0⟩ := hA.node (a := .nil) q1 rfl
  obtain ⟨K1, ck1, -, n1⟩ := hA.node (a := .cons (byteN 97) .nil .nil) q1 rfl
  obtain ⟨K2, ck2, -, n2⟩ := hA.node (a := .cons (byteN 97) .nil (.cons (timesN 0 (-1)) (Fr.one (ndK 2) Fr.nil) .nil)) q1 rfl
  have c00 : w3.cell? ⟨b, o, none⟩ = some (.int .i64 1) := n0 0 _ (ndA_0 _ _ _ _ _ _ _)
  have c01 : w3.cell? ⟨b, o + 1, none⟩ = some (.int .u8 97) := n0 1 _ (ndA_1 _ _ _ _ _ _ _)
  have c10 : w3.cell? ⟨b, o + 262, none⟩ = some (.int .i64 8) := n1 0 _ (ndA_0 _ _ _ _ _ _ _)
  have c15 : w3.cell? ⟨b, o + 522, none⟩ = some (.int .i64 (-1)) := n1 260 _ (ndA_260 _ _ _ _ _ _ _)
  have c20 : w3.cell? ⟨b, o + 524, none⟩ = some (.int .i64 5) := n2 0 _ (ndA_0 _ _ _ _ _ _ _)
  clear n0 n1 n2 q1 p1 hA
  go_wp2_with fail
  (with_reducible refine (bre_no (by decide) ex_none w3 hs3 ⟨#[92, 40, 97, 92, 49, 92, 41]⟩ rfl).mono ?_)
  rintro e w4 ⟨rfl, k4⟩
  have R1 := R1.grows k4
  have R2 := R2.grows k4
  have hc : ∀ {i v}, w3.cell? ⟨b, i, none⟩ = some v → w4.cell? ⟨b, i, none⟩ = some v := fun {i v} h => by
    obtain ⟨m, rfl⟩ := k4
    rw [cell_more _ _ _ (World.block_lt_of_cell? w3 _ h)]
    exact h
  have c00 := hc c00
  have c01 := hc c01
  have c10 := hc c10
  have c15 := hc c15
  have c20 := hc c20
  go_wp2_with fail
  (with_reducible refine (parts_any R1).mono ?_)
  rintro e w5 ⟨rfl, hw⟩
  subst hw
  go_wp2_with fail
  (with_reducible refine (groups_any R2).mono ?_)
  rintro e w5 ⟨rfl, hw⟩
  subst hw
  go_wp2_with fail
  (with_reducible refine (refs_any R2).mono ?_)
  rintro e w5 ⟨rfl, hw⟩
  subst hw
  go_wp2_with fail
  (with_reducible refine (refs_any R1).mono ?_)
  rintro e w5 ⟨rfl, hw⟩
  subst hw
  go_wp2_with fail
  go_ret
  exact ⟨rfl, ((k1.trans k2).trans k3).trans k4⟩
end Go.Proofs.YtmobcljinfoacaaDoor

/-
  The law BreNone, walked.
-/
namespace Go.Proofs.YtmobcljinfoacaaDoor
open Go.RowKit

end Go.Proofs.YtmobcljinfoacaaDoor
