/-
  Patterns: rows of plain bytes, and of small groups, in plain words.
-/
import Derived.Test.YtnjagecmhdagkaaDoorPk21
set_option linter.unusedSimpArgs false
set_option linter.unusedVariables false
namespace Go.Proofs.YtnjagecmhdagkaaDoor
open Go.RowKit

/-- A byte that says nothing of its own. -/
def PlainB (c : UInt8) : Prop := c.toNat ≠ 92 ∧ c.toNat ≠ 91 ∧ c.toNat ≠ 46 ∧ c.toNat ≠ 94 ∧ c.toNat ≠ 36 ∧ c.toNat ≠ 42
set_option maxRecDepth 3000 in
theorem ahead_cons (x : UInt8) (t : List UInt8) (c : UInt8) (l : List UInt8) : ahead (x :: t) (c :: l) = (decide (x = c) && ahead t l) := by
  unfold ahead Lib.hasPrefix
  simp [List.isPrefixOf]
  rfl
set_option maxRecDepth 3000 in
theorem ahead_nil (l : List UInt8) : ahead [] l = true := by
  unfold ahead Lib.hasPrefix
  simp
set_option maxRecDepth 3000 in
theorem ahead_empty (x : UInt8) (t : List UInt8) : ahead (x :: t) [] = false := rfl
set_option maxRecDepth 3000 in
theorem part_plain {c : UInt8} (hc : PlainB c) (first begun : Bool) (l : List UInt8) (p g : Nat) (r : Bool) (op : List Nat) :
    partF first begun ⟨c :: l, p, g, r, op⟩ = selfV c.toNat ⟨l, p, g, r, op⟩ := by
  obtain ⟨h1, h2, h3, h4, h5, h6⟩ := hc
  simp [partF, partW, h1, h2, h3, h4, h5, h6]
/-- Nothing that is counted stands ahead. -/
def NoTimes (l : List UInt8) : Prop := ahead [42] l = false ∧ ahead [92, 123] l = false
set_option maxRecDepth 3000 in
theorem more_plain {l : List UInt8} (hl : NoTimes l) (x : Nk) (p g : Nat) (r : Bool) (op : List Nat) : more1 x ⟨l, p, g, r, op⟩ = some (x, ⟨l, p, g, r, op⟩) := by
  unfold more1
  split
  · rfl
  · rw [timesF_eq]
    simp [hl.1, hl.2]
set_option maxRecDepth 3000 in
/-- A row whose first part is one node, no more of it told. -/
theorem row_leaf {c : UInt8} {l l2 : List UInt8} {p g : Nat} {r r2 : Bool} {op : List Nat} {x : NdV} {first begun : Bool} (hst : stopV (c :: l) = false)
    (hp : partF first begun ⟨c :: l, p, g, r, op⟩ = (node1 ⟨l2, p, g, r2, op⟩).map fun s => ((x, .nil), s)) (hl : NoTimes l2) :
    rowF first begun ⟨c :: l, p, g, r, op⟩ = if p + 1 ≤ 200 then (rowF false (x.kind == 4) ⟨l2, p + 1, g, r2, op⟩).map fun y => (.cons x .nil y.1, y.2) else none := by
  rw [rowF_eq]
  rw [show (⟨c :: l, p, g, r, op⟩ : PS).left = c :: l from rfl, hst, hp]
  unfold node1
  simp only [Bool.false_eq_true, if_false]
  by_cases h : p + 1 ≤ 200
  · rw [if_pos h, if_pos h]
    simp only [Option.map_some, Option.bind_some]
    rw [more_plain hl]
    rfl
  · rw [if_neg h, if_neg h]
    rfl
set_option maxRecDepth 3000 in
theorem row_end (first begun : Bool) (p g : Nat) (r : Bool) (op : List Nat) : rowF first begun ⟨[], p, g, r, op⟩ = some (.nil, ⟨[], p, g, r, op⟩) := by
  rw [rowF_eq]; rfl
/-- So many nodes of one byte. -/
def frB : Nat → Fr
  | 0 => .nil
  | n + 1 => .cons (byteN 98) .nil (frB n)
set_option maxRecDepth 3000 in
theorem row_bs (n : Nat) : ∀ (first begun : Bool) (p g : Nat) (r : Bool) (op : List Nat), p ≤ 200 →
    rowF first begun ⟨List.replicate n 98, p, g, r, op⟩ = if p + n ≤ 200 then some (frB n, ⟨[], p + n, g, r, op⟩) else none := by
  induction n with
  | zero => intro f b p g r op hp; rw [List.replicate_zero, row_end, if_pos (by omega)]; rfl
  | succ n ih =>
    intro f b p g r op hp
    rw [List.replicate_succ, row_leaf (l2 := List.replicate n 98) (x := byteN 98) (r2 := r) rfl]
    · by_cases h : p + 1 ≤ 200
      · rw [if_pos h, ih _ _ _ _ _ _ h]
        by_cases h2 : p + (n + 1) ≤ 200
        · rw [if_pos (by omega), if_pos h2]
          simp [frB]; omega
        · rw [if_neg (by omega), if_neg h2]; rfl
      · rw [if_neg h, if_neg (by omega)]
    · rw [part_plain (by simp [PlainB])]; rfl
    · cases n with
      | zero => exact ⟨rfl, rfl⟩
      | succ n => rw [List.replicate_succ]; exact ⟨rfl, rfl⟩
set_option maxRecDepth 3000 in
theorem pat_bs (n : Nat) : patV (List.replicate n 98) = if n ≤ 200 then some (frB n, ⟨[], n, 0, false, []⟩) else none := by
  unfold patV ps0
  rw [row_bs n _ _ _ _ _ _ (Nat.zero_le _)]
  by_cases h : n ≤ 200
  · simp [h]
  · simp [h]
/-- So many groups of one byte. -/
def grpT : Nat → List UInt8
  | 0 => []
  | n + 1 => 92 :: 40 :: 97 :: 92 :: 41 :: grpT n
def frG : Nat → Nat → Fr
  | _, 0 => .nil
  | g, n + 1 => .cons (groupN (g + 1)) (Fr.one (byteN 97) .nil) (frG (g + 1) n)
set_option maxRecDepth 3000 in
theorem grp_noTimes (n : Nat) : NoTimes (grpT n) := by
  cases n with
  | zero => exact ⟨rfl, rfl⟩
  | succ n => exact ⟨rfl, rfl⟩
set_option maxRecDepth 3000 in
theorem part_grp (first begun : Bool) (l : List UInt8) (p g : Nat) (r : Bool) (op : List Nat) (hp : p + 2 ≤ 200) :
    partF first begun ⟨92 :: 40 :: 97 :: 92 :: 41 :: l, p, g, r, op⟩ = if g + 1 ≤ 9 then some ((groupN (g + 1), Fr.one (byteN 97) .nil), ⟨l, p + 2, g + 1, r, op⟩) else none := by
  have hrow : rowF true false ⟨97 :: 92 :: 41 :: l, p + 1, g + 1, r, op ++ [g + 1]⟩ = some (Fr.one (byteN 97) .nil, ⟨92 :: 41 :: l, p + 2, g + 1, r, op ++ [g + 1]⟩) := by
    rw [row_leaf (l2 := 92 :: 41 :: l) (x := byteN 97) (r2 := r) rfl]
    · rw [if_pos (by omega), rowF_eq]
      rw [show stopV (⟨92 :: 41 :: l, p + 1 + 1, g + 1, r, op ++ [g + 1]⟩ : PS).left = true by simp [stopV, ahead_cons, ahead_nil]]
      rfl
    · rw [part_plain (by simp [PlainB])]; rfl
    · constructor <;> simp [ahead_cons]
  unfold partF partW
  simp only [show ((92 : UInt8).toNat = 92) from rfl, if_true]
  unfold slashV
  simp only [show ((40 : UInt8).toNat = 40) from rfl, if_true]
  unfold groupV
  by_cases h : g + 1 ≤ 9
  · rw [if_pos h, if_pos h]
    unfold node1
    simp only [show p + 1 ≤ 200 by omega, if_true, Option.bind_some]
    rw [hrow]
    simp [ahead_cons, ahead_nil]
  · rw [if_neg h, if_neg h]
set_option maxRecDepth 3000 in
theorem row_gs (n : Nat) : ∀ (first begun : Bool) (p g : Nat) (r : Bool) (op : List Nat), p + 2 * n ≤ 200 → g ≤ 9 →
    rowF first begun ⟨grpT n, p, g, r, op⟩ = if g + n ≤ 9 then some (frG g n, ⟨[], p + 2 * n, g + n, r, op⟩) else none := by
  induction n with
  | zero => intro f b p g r op hp hg; rw [show grpT 0 = [] from rfl, row_end, if_pos (by omega)]; rfl
  | succ n ih =>
    intro f b p g r op hp hg
    rw [rowF_eq, show stopV (⟨grpT (n + 1), p, g, r, op⟩ : PS).left = false from rfl]
    rw [show grpT (n + 1) = 92 :: 40 :: 97 :: 92 :: 41 :: grpT n from rfl, part_grp _ _ _ _ _ _ _ (by omega)]
    by_cases h : g + 1 ≤ 9
    · rw [if_pos h]
      simp only [Bool.false_eq_true, if_false, Option.bind_some]
      rw [more_plain (grp_noTimes n)]
      simp only [Option.bind_some]
      rw [ih _ _ _ _ _ _ (by omega) h]
      by_cases h2 : g + (n + 1) ≤ 9
      · rw [if_pos (by omega), if_pos h2]
        simp [frG]
        omega
      · rw [if_neg (by omega), if_neg h2]; rfl
    · rw [if_neg h, if_neg (show ¬ g + (n + 1) ≤ 9 by omega)]; rfl
set_option maxRecDepth 3000 in
theorem pat_gs (n : Nat) (hn : n ≤ 50) : patV (grpT n) = if n ≤ 9 then some (frG 0 n, ⟨[], 2 * n, n, false, []⟩) else none := by
  unfold patV ps0
  rw [row_gs n _ _ _ _ _ _ (by omega) (by omega)]
  by_cases h : n ≤ 9
  · simp [h]
  · simp [h]
set_option maxRecDepth 3000 in
theorem grpT_append (n : Nat) : grpT n ++ [92, 40, 97, 92, 41] = grpT (n + 1) := by
  induction n with
  | zero => rfl
  | succ n ih => rw [show grpT (n + 1) = 92 :: 40 :: 97 :: 92 :: 41 :: grpT n from rfl]; simp only [List.cons_append]; rw [ih]; rfl
set_option maxRecDepth 3000 in
theorem grpT_len (n : Nat) : (grpT n).length = 5 * n := by
  induction n with
  | zero => rfl
  | succ n ih => simp [grpT, ih]; omega
end Go.Proofs.YtnjagecmhdagkaaDoor
