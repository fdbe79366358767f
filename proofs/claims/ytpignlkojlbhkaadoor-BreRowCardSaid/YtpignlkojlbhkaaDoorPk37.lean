/-
  Several texts of the proof: BreSize, BreLawS, BreZero.
-/
import Derived.Test.YtpignlkojlbhkaaDoorPk36
/-
  Patterns: as many nodes as parts were counted.
-/
namespace Go.Proofs.YtpignlkojlbhkaaDoor
open Go.RowKit

set_option maxRecDepth 3000 in
theorem node1_parts {s t : PS} (h : node1 s = some t) : t.parts = s.parts + 1 ∧ t.parts ≤ 200 := by
  obtain ⟨h1, rfl⟩ := node1_eq h
  exact ⟨rfl, h1⟩
set_option maxRecDepth 3000 in
theorem one_size (x : NdV) (k : Fr) : (Fr.one x k).size = k.size + 1 := by simp [Fr.one, Fr.size]
set_option maxRecDepth 3000 in
theorem timesV_size {n : Nat} : ∀ {x : Nk} {s : PS} {y : Nk × PS}, timesV n x s = some y → y.1.2.size + s.parts = x.2.size + y.2.parts ∧ (s.parts ≤ 200 → y.2.parts ≤ 200) := by
  induction n with
  | zero => intro x s y h; cases h
  | succ n ih =>
    intro x s y h
    unfold timesV at h
    split at h
    · rw [Option.bind_eq_some_iff] at h
      obtain ⟨t, h1, h2⟩ := h
      have k1 := node1_parts h1
      have k2 := ih h2
      simp only [one_size] at k1 k2
      omega
    · split at h
      · rw [Option.bind_eq_some_iff] at h
        obtain ⟨b, hb, h⟩ := h
        rw [Option.bind_eq_some_iff] at h
        obtain ⟨t, h1, h2⟩ := h
        have k1 := node1_parts h1
        have k2 := ih h2
        simp only [one_size] at k1 k2
        omega
      · injection h with h; subst h; exact ⟨rfl, fun h => h⟩
set_option maxRecDepth 3000 in
theorem more1_size {x : Nk} {s : PS} {y : Nk × PS} (h : more1 x s = some y) : y.1.2.size + s.parts = x.2.size + y.2.parts ∧ (s.parts ≤ 200 → y.2.parts ≤ 200) := by
  unfold more1 at h
  split at h
  · injection h with h; subst h; exact ⟨rfl, fun h => h⟩
  · exact timesV_size h
def RowSz (row : PS → Option (Fr × PS)) : Prop := ∀ s y, row s = some y → y.1.size + s.parts = y.2.parts ∧ (s.parts ≤ 200 → y.2.parts ≤ 200)
section
variable {row : PS → Option (Fr × PS)}
set_option maxRecDepth 3000 in
theorem selfV_size {c : Nat} {s : PS} {y : Nk × PS} (h : selfV c s = some y) : y.1.2.size + s.parts + 1 = y.2.parts ∧ y.2.parts ≤ 200 := by
  unfold selfV at h
  rw [Option.map_eq_some_iff] at h
  obtain ⟨t, h1, rfl⟩ := h
  have := node1_parts h1
  simp [Fr.size]; omega
set_option maxRecDepth 3000 in
theorem leaf_size {s : PS} {x : NdV} {y : Nk × PS} (h : (node1 s).map (fun s => ((x, Fr.nil), s)) = some y) : y.1.2.size + s.parts + 1 = y.2.parts ∧ y.2.parts ≤ 200 := by
  rw [Option.map_eq_some_iff] at h
  obtain ⟨t, h1, rfl⟩ := h
  have := node1_parts h1
  simp [Fr.size]; omega
set_option maxRecDepth 3000 in
theorem groupV_size (hr : RowSz row) {s : PS} {y : Nk × PS} (h : groupV row s = some y) : y.1.2.size + s.parts + 1 = y.2.parts ∧ y.2.parts ≤ 200 := by
  unfold groupV at h
  split at h
  · rw [Option.bind_eq_some_iff] at h
    obtain ⟨t, h1, h⟩ := h
    rw [Option.bind_eq_some_iff] at h
    obtain ⟨z, h2, h⟩ := h
    split at h
    · injection h with h
      subst h
      have k1 := node1_parts h1
      have k := hr _ _ h2
      simp only [] at k k1 ⊢
      omega
    · cases h
  · cases h
set_option maxRecDepth 3000 in
theorem slashV_size (hr : RowSz row) {s : PS} {y : Nk × PS} (h : slashV row s = some y) : y.1.2.size + s.parts + 1 = y.2.parts ∧ y.2.parts ≤ 200 := by
  obtain ⟨left, parts, groups, refs, op⟩ := s
  cases left with
  | nil => cases h
  | cons c l =>
    unfold slashV at h
    simp only [] at h
    split at h
    · (have k := groupV_size hr h; exact k)
    · split at h
      · split at h
        · (have k := leaf_size h; exact k)
        · cases h
      · split at h
        · cases h
        · (have k := selfV_size h; exact k)
set_option maxRecDepth 3000 in
theorem partW_size (hr : RowSz row) {first begun : Bool} {s : PS} {y : Nk × PS} (h : partW row first begun s = some y) : y.1.2.size + s.parts + 1 = y.2.parts ∧ y.2.parts ≤ 200 := by
  obtain ⟨left, parts, groups, refs, op⟩ := s
  cases left with
  | nil => cases h
  | cons c l =>
    unfold partW at h
    simp only [] at h
    split at h
    · (have k := slashV_size hr h; exact k)
    · split at h
      · rw [Option.bind_eq_some_iff] at h
        obtain ⟨p, hp, h⟩ := h
        (have k := leaf_size h; exact k)
      · split at h
        · (have k := leaf_size h; exact k)
        · split at h
          · (have k := leaf_size h; exact k)
          · split at h
            · (have k := leaf_size h; exact k)
            · split at h
              · cases h
              · (have k := selfV_size h; exact k)
end
set_option maxRecDepth 3000 in
theorem rowV_size (n : Nat) : ∀ {first begun : Bool} {s : PS} {y : Fr × PS}, rowV n first begun s = some y → y.1.size + s.parts = y.2.parts ∧ (s.parts ≤ 200 → y.2.parts ≤ 200) := by
  induction n with
  | zero => intro f b s y h; cases h
  | succ n ih =>
    intro f b s y h
    unfold rowV at h
    split at h
    · injection h with h; subst h; exact ⟨by simp [Fr.size], fun h => h⟩
    · rw [Option.bind_eq_some_iff] at h
      obtain ⟨a, h1, h⟩ := h
      rw [Option.bind_eq_some_iff] at h
      obtain ⟨c, h2, h⟩ := h
      rw [Option.map_eq_some_iff] at h
      obtain ⟨r, h3, rfl⟩ := h
      have k1 := partW_size (fun s y h => ih h) h1
      have k2 := more1_size h2
      have k3 : r.1.size + c.2.parts = r.2.parts ∧ (c.2.parts ≤ 200 → r.2.parts ≤ 200) := ih h3
      simp only [Fr.size]
      omega
set_option maxRecDepth 3000 in
/-- A pattern has as many nodes as parts. -/
theorem patV_size {l : List UInt8} {y : Fr × PS} (h : patV l = some y) : y.1.size = y.2.parts ∧ y.2.parts ≤ 200 := by
  unfold patV at h
  rw [Option.bind_eq_some_iff] at h
  obtain ⟨z, h1, h2⟩ := h
  have := rowV_size _ h1
  split at h2
  · injection h2 with h2; subst h2; simpa [ps0] using this
  · cases h2
end Go.Proofs.YtpignlkojlbhkaaDoor

/-
  The patterns' laws: small helpers walked.
-/
namespace Go.Proofs.YtpignlkojlbhkaaDoor
open Go.RowKit

/-- Is a byte special behind a backslash? -/
def specialB (c : Nat) : Bool := decide (c = 40 ∨ c = 41 ∨ c = 123 ∨ c = 125 ∨ 49 ≤ c ∧ c ≤ 57)
set_option maxRecDepth 3000 in
theorem specialB_any (c : Nat) (w : World) : Calls Tryd.prog 19 #[.int .u8 c] w fun e w' => e = .returned (.bool (specialB c)) ∧ w = w' := by
  unfold specialB
  by_cases h1 : c = 40
  · subst h1
    go_enter Tryd.func19, Tryd.ntmps19
    go_wp2_with fail
    go_ret
    exact ⟨rfl, rfl⟩
  by_cases h2 : c = 41
  · subst h2
    go_enter Tryd.func19, Tryd.ntmps19
    go_wp2_with fail
    go_ret
    exact ⟨rfl, rfl⟩
  by_cases h3 : c = 123
  · subst h3
    go_enter Tryd.func19, Tryd.ntmps19
    go_wp2_with fail
    go_ret
    exact ⟨rfl, rfl⟩
  by_cases h4 : c = 125
  · subst h4
    go_enter Tryd.func19, Tryd.ntmps19
    go_wp2_with fail
    go_ret
    exact ⟨rfl, rfl⟩
  have b1 : ((c : Int) == 40) = false := by simp; omega
  have b2 : ((c : Int) == 41) = false := by simp; omega
  have b3 : ((c : Int) == 123) = false := by simp; omega
  have b4 : ((c : Int) == 125) = false := by simp; omega
  by_cases h5 : 49 ≤ c
  · by_cases h6 : c ≤ 57
    · have e : decide (c = 40 ∨ c = 41 ∨ c = 123 ∨ c = 125 ∨ 49 ≤ c ∧ c ≤ 57) = true := by simp; omega
      rw [e]
      clear e
      go_enter Tryd.func19, Tryd.ntmps19
      go_wp2_with fail
      go_ret
      exact ⟨by simp [h6]; omega, rfl⟩
    · have e : decide (c = 40 ∨ c = 41 ∨ c = 123 ∨ c = 125 ∨ 49 ≤ c ∧ c ≤ 57) = false := by simp; omega
      rw [e]
      clear e
      go_enter Tryd.func19, Tryd.ntmps19
      go_wp2_with fail
      go_ret
      exact ⟨by simp; omega, rfl⟩
  · have e : decide (c = 40 ∨ c = 41 ∨ c = 123 ∨ c = 125 ∨ 49 ≤ c ∧ c ≤ 57) = false := by simp; omega
    rw [e]
    clear e
    go_enter Tryd.func19, Tryd.ntmps19
    go_wp2_with fail
    go_ret
    exact ⟨rfl, rfl⟩
end Go.Proofs.YtpignlkojlbhkaaDoor

/-
  Patterns: what is asked of one that Parse did not make.
-/
namespace Go.Proofs.YtpignlkojlbhkaaDoor
open Go.RowKit

/-- A pattern without anything, in a block of its own. -/
structure ReZ (w : World) (g : Nat) : Prop where
  tree : w.cell? ⟨g, 0, none⟩ = some (.slice none 0 0)
  groups : w.cell? ⟨g, 1, none⟩ = some (.int .i64 0)
  parts : w.cell? ⟨g, 2, none⟩ = some (.int .i64 0)
  refs : w.cell? ⟨g, 3, none⟩ = some (.bool false)
section
variable {w : World} {g : Nat}
set_option maxRecDepth 3000 in
theorem ReZ.grows {w' : World} (h : ReZ w g) (hg : Grows w w') : ReZ w' g := by
  have hc : ∀ {i v}, w.cell? ⟨g, i, none⟩ = some v → w'.cell? ⟨g, i, none⟩ = some v := fun {i v} h => by
    obtain ⟨m, rfl⟩ := hg
    rw [cell_more _ _ _ (World.block_lt_of_cell? w _ h)]
    exact h
  exact ⟨hc h.tree, hc h.groups, hc h.parts, hc h.refs⟩
set_option maxRecDepth 3000 in
theorem groups_zero (h : ReZ w g) : Calls Tryd.prog 13 #[.pointer (some ⟨g, 0, none⟩)] w fun e w' => e = .returned (.int .i64 0) ∧ w = w' := by
  have h1 := h.groups
  have ig : InHeap g w := World.block_lt_of_cell? _ _ h1
  go_enter Tryd.func13, Tryd.ntmps13
  go_wp2_with fail
  go_ret
  exact ⟨rfl, rfl⟩
set_option maxRecDepth 3000 in
theorem parts_zero (h : ReZ w g) : Calls Tryd.prog 15 #[.pointer (some ⟨g, 0, none⟩)] w fun e w' => e = .returned (.int .i64 0) ∧ w = w' := by
  have h1 := h.parts
  have ig : InHeap g w := World.block_lt_of_cell? _ _ h1
  go_enter Tryd.func15, Tryd.ntmps15
  go_wp2_with fail
  go_ret
  exact ⟨rfl, rfl⟩
set_option maxRecDepth 3000 in
theorem refs_zero (h : ReZ w g) : Calls Tryd.prog 14 #[.pointer (some ⟨g, 0, none⟩)] w fun e w' => e = .returned (.bool false) ∧ w = w' := by
  have h1 := h.refs
  have ig : InHeap g w := World.block_lt_of_cell? _ _ h1
  go_enter Tryd.func14, Tryd.ntmps14
  go_wp2_with fail
  go_ret
  exact ⟨rfl, rfl⟩
set_option maxRecDepth 3000 in
theorem tree_zero (h : ReZ w g) : Calls Tryd.prog 12 #[.pointer (some ⟨g, 0, none⟩)] w (Twin2 w .nil) := by
  have h1 := h.tree
  have ig : InHeap g w := World.block_lt_of_cell? _ _ h1
  have hcall := twin_none w
  go_enter Tryd.func12, Tryd.ntmps12
  go_wp2_with fail
  (with_reducible refine hcall.mono ?_)
  rintro e w1 ⟨A2, cap2, rfl, hf2, hg2⟩
  have hf2 := Lib.hid hf2
  clear hcall
  go_wp2_with fail
  go_ret
  exact ⟨A2, cap2, rfl, hf2.out, hg2⟩
end
end Go.Proofs.YtpignlkojlbhkaaDoor
