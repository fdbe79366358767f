/-
  Several texts of the proof: BreLim, BreDigits, BreTimesP.
-/
import Derived.Test.YtnjagecmhdagkaaDoorPk22
set_option linter.unusedSimpArgs false
set_option linter.unusedVariables false
/-
  Patterns: rows of plain bytes, and of small groups, in plain words.
-/
namespace Go.Proofs.YtnjagecmhdagkaaDoor
open Go.RowKit

/-- A byte that says nothing of its own. -/
def PlainB (c : UInt8) : Prop := c.toNat ≠ 92 ∧ c.toNat ≠ 91 ∧ c.toNat ≠ 46 ∧ c.toNat ≠ 94 ∧ c.toNat ≠ 36 ∧ c.toNat ≠ 42
set_option maxRecDepth 3000 in
theorem ahead_cons (x : UInt8) (t : List UInt8) (c : UInt8) (l : List UInt8) : ahead (x :: t) (c :: l) = (decide (x = c) && ahead t l) := by
  unfold ahead Lib.hasPrefix
  simp [List.isPrefixOf]
  rfl
set_option maxRecDepth 3000 in
theorem ahead_nil (l : List UInt8) : ahead [] l = true := by
  unfold ahead Lib.hasPrefix
  simp
set_option maxRecDepth 3000 in
theorem ahead_empty (x : UInt8) (t : List UInt8) : ahead (x :: t) [] = false := rfl
set_option maxRecDepth 3000 in
theorem part_plain {c : UInt8} (hc : PlainB c) (first begun : Bool) (l : List UInt8) (p g : Nat) (r : Bool) (op : List Nat) :
    partF first begun ⟨c :: l, p, g, r, op⟩ = selfV c.toNat ⟨l, p, g, r, op⟩ := by
  obtain ⟨h1, h2, h3, h4, h5, h6⟩ := hc
  simp [partF, partW, h1, h2, h3, h4, h5, h6]
/-- Nothing that is counted stands ahead. -/
def NoTimes (l : List UInt8) : Prop := ahead [42] l = false ∧ ahead [92, 123] l = false
set_option maxRecDepth 3000 in
theorem more_plain {l : List UInt8} (hl : NoTimes l) (x : Nk) (p g : Nat) (r : Bool) (op : List Nat) : more1 x ⟨l, p, g, r, op⟩ = some (x, ⟨l, p, g, r, op⟩) := by
  unfold more1
  split
  · rfl
  · rw [timesF_eq]
    simp [hl.1, hl.2]
set_option maxRecDepth 3000 in
/-- A row whose first part is one node, no more of it told. -/
theorem row_leaf {c : UInt8} {l l2 : List UInt8} {p g : Nat} {r r2 : Bool} {op : List Nat} {x : NdV} {first begun : Bool} (hst : stopV (c :: l) = false)
    (hp : partF first begun ⟨c :: l, p, g, r, op⟩ = (node1 ⟨l2, p, g, r2, op⟩).map fun s => ((x, .nil), s)) (hl : NoTimes l2) :
    rowF first begun ⟨c :: l, p, g, r, op⟩ = if p + 1 ≤ 200 then (rowF false (x.kind == 4) ⟨l2, p + 1, g, r2, op⟩).map fun y => (.cons x .nil y.1, y.2) else none := by
  rw [rowF_eq]
  rw [show (⟨c :: l, p, g, r, op⟩ : PS).left = c :: l from rfl, hst, hp]
  unfold node1
  simp only [Bool.false_eq_true, if_false]
  by_cases h : p + 1 ≤ 200
  · rw [if_pos h, if_pos h]
    simp only [Option.map_some, Option.bind_some]
    rw [more_plain hl]
    rfl
  · rw [if_neg h, if_neg h]
    rfl
set_option maxRecDepth 3000 in
theorem row_end (first begun : Bool) (p g : Nat) (r : Bool) (op : List Nat) : rowF first begun ⟨[], p, g, r, op⟩ = some (.nil, ⟨[], p, g, r, op⟩) := by
  rw [rowF_eq]; rfl
/-- So many nodes of one byte. -/
def frB : Nat → Fr
  | 0 => .nil
  | n + 1 => .cons (byteN 98) .nil (frB n)
set_option maxRecDepth 3000 in
theorem row_bs (n : Nat) : ∀ (first begun : Bool) (p g : Nat) (r : Bool) (op : List Nat), p ≤ 200 →
    rowF first begun ⟨List.replicate n 98, p, g, r, op⟩ = if p + n ≤ 200 then some (frB n, ⟨[], p + n, g, r, op⟩) else none := by
  induction n with
  | zero => intro f b p g r op hp; rw [List.replicate_zero, row_end, if_pos (by omega)]; rfl
  | succ n ih =>
    intro f b p g r op hp
    rw [List.replicate_succ, row_leaf (l2 := List.replicate n 98) (x := byteN 98) (r2 := r) rfl]
    · by_cases h : p + 1 ≤ 200
      · rw [if_pos h, ih _ _ _ _ _ _ h]
        by_cases h2 : p + (n + 1) ≤ 200
        · rw [if_pos (by omega), if_pos h2]
          simp [frB]; omega
        · rw [if_neg (by omega), if_neg h2]; rfl
      · rw [if_neg h, if_neg (by omega)]
    · rw [part_plain (by simp [PlainB])]; rfl
    · cases n with
      | zero => exact ⟨rfl, rfl⟩
      | succ n => rw [List.replicate_succ]; exact ⟨rfl, rfl⟩
set_option maxRecDepth 3000 in
theorem pat_bs (n : Nat) : patV (List.replicate n 98) = if n ≤ 200 then some (frB n, ⟨[], n, 0, false, []⟩) else none := by
  unfold patV ps0
  rw [row_bs n _ _ _ _ _ _ (Nat.zero_le _)]
  by_cases h : n ≤ 200
  · simp [h]
  · simp [h]
/-- So many groups of one byte. -/
def grpT : Nat → List UInt8
  | 0 => []
  | n + 1 => 92 :: 40 :: 97 :: 92 :: 41 :: grpT n
def frG : Nat → Nat → Fr
  | _, 0 => .nil
  | g, n + 1 => .cons (groupN (g + 1)) (Fr.one (byteN 97) .nil) (frG (g + 1) n)
set_option maxRecDepth 3000 in
theorem grp_noTimes (n : Nat) : NoTimes (grpT n) := by
  cases n with
  | zero => exact ⟨rfl, rfl⟩
  | succ n => exact ⟨rfl, rfl⟩
set_option maxRecDepth 3000 in
theorem part_grp (first begun : Bool) (l : List UInt8) (p g : Nat) (r : Bool) (op : List Nat) (hp : p + 2 ≤ 200) :
    partF first begun ⟨92 :: 40 :: 97 :: 92 :: 41 :: l, p, g, r, op⟩ = if g + 1 ≤ 9 then some ((groupN (g + 1), Fr.one (byteN 97) .nil), ⟨l, p + 2, g + 1, r, op⟩) else none := by
  have hrow : rowF true false ⟨97 :: 92 :: 41 :: l, p + 1, g + 1, r, op ++ [g + 1]⟩ = some (Fr.one (byteN 97) .nil, ⟨92 :: 41 :: l, p + 2, g + 1, r, op ++ [g + 1]⟩) := by
    rw [row_leaf (l2 := 92 :: 41 :: l) (x := byteN 97) (r2 := r) rfl]
    · rw [if_pos (by omega), rowF_eq]
      rw [show stopV (⟨92 :: 41 :: l, p + 1 + 1, g + 1, r, op ++ [g + 1]⟩ : PS).left = true by simp [stopV, ahead_cons, ahead_nil]]
      rfl
    · rw [part_plain (by simp [PlainB])]; rfl
    · constructor <;> simp [ahead_cons]
  unfold partF partW
  simp only [show ((92 : UInt8).toNat = 92) from rfl, if_true]
  unfold slashV
  simp only [show ((40 : UInt8).toNat = 40) from rfl, if_true]
  unfold groupV
  by_cases h : g + 1 ≤ 9
  · rw [if_pos h, if_pos h]
    unfold node1
    simp only [show p + 1 ≤ 200 by omega, if_true, Option.bind_some]
    rw [hrow]
    simp [ahead_cons, ahead_nil]
  · rw [if_neg h, if_neg h]
set_option maxRecDepth 3000 in
theorem row_gs (n : Nat) : ∀ (first begun : Bool) (p g : Nat) (r : Bool) (op : List Nat), p + 2 * n ≤ 200 → g ≤ 9 →
    rowF first begun ⟨grpT n, p, g, r, op⟩ = if g + n ≤ 9 then some (frG g n, ⟨[], p + 2 * n, g + n, r, op⟩) else none := by
  induction n with
  | zero => intro f b p g r op hp hg; rw [show grpT 0 = [] from rfl, row_end, if_pos (by omega)]; rfl
  | succ n ih =>
    intro f b p g r op hp hg
    rw [rowF_eq, show stopV (⟨grpT (n + 1), p, g, r, op⟩ : PS).left = false from rfl]
    rw [show grpT (n + 1) = 92 :: 40 :: 97 :: 92 :: 41 :: grpT n from rfl, part_grp _ _ _ _ _ _ _ (by omega)]
    by_cases h : g + 1 ≤ 9
    · rw [if_pos h]
      simp only [Bool.false_eq_true, if_false, Option.bind_some]
      rw [more_plain (grp_noTimes n)]
      simp only [Option.bind_some]
      rw [ih _ _ _ _ _ _ (by omega) h]
      by_cases h2 : g + (n + 1) ≤ 9
      · rw [if_pos (by omega), if_pos h2]
        simp [frG]
        omega
      · rw [if_neg (by omega), if_neg h2]; rfl
    · rw [if_neg h, if_neg (show ¬ g + (n + 1) ≤ 9 by omega)]; rfl
set_option maxRecDepth 3000 in
theorem pat_gs (n : Nat) (hn : n ≤ 50) : patV (grpT n) = if n ≤ 9 then some (frG 0 n, ⟨[], 2 * n, n, false, []⟩) else none := by
  unfold patV ps0
  rw [row_gs n _ _ _ _ _ _ (by omega) (by omega)]
  by_cases h : n ≤ 9
  · simp [h]
  · simp [h]
set_option maxRecDepth 3000 in
theorem grpT_append (n : Nat) : grpT n ++ [92, 40, 97, 92, 41] = grpT (n + 1) := by
  induction n with
  | zero => rfl
  | succ n ih => rw [show grpT (n + 1) = 92 :: 40 :: 97 :: 92 :: 41 :: grpT n from rfl]; simp only [List.cons_append]; rw [ih]; rfl
set_option maxRecDepth 3000 in
theorem grpT_len (n : Nat) : (grpT n).length = 5 * n := by
  induction n with
  | zero => rfl
  | succ n ih => simp [grpT, ih]; omega
end Go.Proofs.YtnjagecmhdagkaaDoor

/-
  The patterns' laws: a number's digits.
-/
namespace Go.Proofs.YtnjagecmhdagkaaDoor
open Go.RowKit

set_option maxRecDepth 3000 in
theorem run_conv9 (l : List UInt8) (w : World) (g n cap : Nat) (hn : n = l.length) (hc : ∀ j (hj : j < l.length), w.cell? ⟨g, j, none⟩ = some (.int .u8 (l[j].toNat : Int))) :
    (convert 33 9 (.slice (some ⟨g, 0, none⟩) n cap)).run Tryd.prog w = .ok (.string (tx l)) w := by
  subst hn
  have := run_convert_bytes_back (P := Tryd.prog) w 33 9 5 ⟨g, 0, none⟩ cap l Tryd.underlying33 Tryd.underlying5 Tryd.underlying9
  exact this (fun j hj => by rw [show (⟨g, 0, none⟩ : Addr).add j = ⟨g, j, none⟩ by unfold Addr.add; split <;> simp_all]; exact hc j hj)
def dig8 (n : Nat) : UInt8 := UInt8.ofNat (48 + n % 10)
set_option maxRecDepth 3000 in
theorem dig8_nat (n : Nat) : (dig8 n).toNat = 48 + n % 10 := by
  unfold dig8
  rw [UInt8.toNat_ofNat']
  omega
/-- The digits of a number ahead of a text; of none for 0. -/
def digL : Nat → List UInt8 → List UInt8
  | 0, s => s
  | n + 1, s => digL ((n + 1) / 10) (dig8 (n + 1) :: s)
termination_by n => n
decreasing_by omega
def digitsV (n : Nat) : List UInt8 := digL (n / 10) [dig8 n]
set_option maxRecDepth 3000 in
theorem conv_dig (n : Nat) (W : World) : (convert 33 9 (.slice (some ⟨W.heap.size, 0, none⟩) 1 1)).run Tryd.prog (W.alloc (.cells #[.int .u8 (48 + (n : Int) % 10)] 5)) = .ok (.string (tx [dig8 n])) (W.alloc (.cells #[.int .u8 (48 + (n : Int) % 10)] 5)) := by
  have h8 : ((dig8 n).toNat : Int) = 48 + (n : Int) % 10 := by rw [dig8_nat]; omega
  rw [← h8]
  exact run_conv9 [dig8 n] _ _ _ _ rfl (fun j hj => by
        have : j = 0 := by simp at hj; omega
        subst this
        simp [go_sem])
set_option maxRecDepth 3000 in
theorem digL_pos (n : Nat) (s : List UInt8) (h : 0 < n) : digL n s = digL (n / 10) (dig8 n :: s) := by
  cases n with
  | zero => omega
  | succ n => rw [digL]
set_option maxRecDepth 3000 in
theorem digL_zero (s : List UInt8) : digL 0 s = s := by rw [digL]
end Go.Proofs.YtnjagecmhdagkaaDoor

/-
  Patterns: one byte and an interval behind it, in plain words.
-/
namespace Go.Proofs.YtnjagecmhdagkaaDoor
open Go.RowKit

set_option maxRecDepth 3000 in
theorem digitsV_small (n : Nat) : (n < 10 → digitsV n = [dig8 n]) ∧ (10 ≤ n → n < 100 → digitsV n = [dig8 (n / 10), dig8 n]) ∧ (100 ≤ n → n < 1000 → digitsV n = [dig8 (n / 10 / 10), dig8 (n / 10), dig8 n]) := by
  refine ⟨fun h => ?_, fun h k => ?_, fun h k => ?_⟩
  · unfold digitsV
    rw [show n / 10 = 0 by omega, digL_zero]
  · unfold digitsV
    rw [digL_pos _ _ (by omega), show n / 10 / 10 = 0 by omega, digL_zero]
  · unfold digitsV
    rw [digL_pos _ _ (by omega), digL_pos _ _ (by omega), show n / 10 / 10 / 10 = 0 by omega, digL_zero]
set_option maxRecDepth 3000 in
theorem isDig8 (n : Nat) : isDig (dig8 n) = true := by
  unfold isDig
  rw [dig8_nat]
  simp
  omega
set_option maxRecDepth 3000 in
theorem digitsV_dig (n : Nat) (hn : n < 1000) : ∀ c ∈ digitsV n, isDig c = true := by
  obtain ⟨h1, h2, h3⟩ := digitsV_small n
  intro c hc
  rcases Nat.lt_or_ge n 10 with h | h
  · rw [h1 h] at hc; simp at hc; rw [hc, isDig8]
  · rcases Nat.lt_or_ge n 100 with k | k
    · rw [h2 h k] at hc; simp at hc; rcases hc with rfl | rfl <;> exact isDig8 _
    · rw [h3 k hn] at hc; simp at hc; rcases hc with rfl | rfl | rfl <;> exact isDig8 _
set_option maxRecDepth 3000 in
theorem digitsV_ne (n : Nat) (hn : n < 1000) : (digitsV n).isEmpty = false := by
  obtain ⟨h1, h2, h3⟩ := digitsV_small n
  rcases Nat.lt_or_ge n 10 with h | h
  · rw [h1 h]; rfl
  · rcases Nat.lt_or_ge n 100 with k | k
    · rw [h2 h k]; rfl
    · rw [h3 k hn]; rfl
set_option maxRecDepth 3000 in
theorem digitsV_len (n : Nat) (hn : n < 1000) : (digitsV n).length ≤ 3 := by
  obtain ⟨h1, h2, h3⟩ := digitsV_small n
  rcases Nat.lt_or_ge n 10 with h | h
  · rw [h1 h]; simp
  · rcases Nat.lt_or_ge n 100 with k | k
    · rw [h2 h k]; simp
    · rw [h3 k hn]; simp
set_option maxRecDepth 3000 in
theorem numV_digits (n : Nat) (hn : n < 1000) : numV (digitsV n) = min n 256 := by
  obtain ⟨h1, h2, h3⟩ := digitsV_small n
  rcases Nat.lt_or_ge n 10 with h | h
  · rw [h1 h]; simp only [numV, List.foldl, dig8_nat]; omega
  · rcases Nat.lt_or_ge n 100 with k | k
    · rw [h2 h k]; simp only [numV, List.foldl, dig8_nat]; omega
    · rw [h3 k hn]; simp only [numV, List.foldl, dig8_nat]; omega
set_option maxRecDepth 3000 in
theorem takeWhile_all {p : UInt8 → Bool} : ∀ (l : List UInt8) (c : UInt8) (r : List UInt8), (∀ x ∈ l, p x = true) → p c = false → (l ++ c :: r).takeWhile p = l ∧ (l ++ c :: r).dropWhile p = c :: r
  | [], c, r, _, hc => by simp [hc]
  | x :: l, c, r, h, hc => by
    have hx := h x (by simp)
    have := takeWhile_all l c r (fun y hy => h y (by simp [hy])) hc
    simp [hx, this.1, this.2]
set_option maxRecDepth 3000 in
theorem number_digits (n : Nat) (hn : n < 1000) (c : UInt8) (r : List UInt8) (hc : isDig c = false) : numberV (digitsV n ++ c :: r) = (min n 256, true, c :: r) := by
  obtain ⟨h1, h2⟩ := takeWhile_all (p := isDig) (digitsV n) c r (digitsV_dig n hn) hc
  unfold numberV
  rw [h1, h2, numV_digits n hn, digitsV_ne n hn]
  rfl
set_option maxRecDepth 3000 in
theorem bounds_alone (a : Nat) (ha : a < 1000) : boundsV (digitsV a ++ [92, 125]) = if a ≤ 255 then some (a, (a : Int), []) else none := by
  have h1 : numberV (digitsV a ++ [92, 125]) = (min a 256, true, [92, 125]) := number_digits a ha 92 [125] rfl
  unfold boundsV
  simp only [h1]
  have h2 : mostV (min a 256) [92, 125] = (((min a 256 : Nat) : Int), [92, 125]) := by
    unfold mostV
    rw [show ahead [44] [92, 125] = false from rfl]
    rfl
  simp only [h2]
  have h3 : ahead [92, 125] [92, 125] = true := rfl
  by_cases h : a ≤ 255
  · rw [if_pos h, if_pos ⟨by trivial, h3, by omega, by omega, .inr (by omega)⟩]
    simp [show min a 256 = a by omega]
  · rw [if_neg h, if_neg (fun k => by have := k.2.2.1; omega)]
set_option maxRecDepth 3000 in
theorem bounds_from (a : Nat) (ha : a < 1000) : boundsV (digitsV a ++ [44, 92, 125]) = if a ≤ 255 then some (a, -1, []) else none := by
  have h1 : numberV (digitsV a ++ [44, 92, 125]) = (min a 256, true, [44, 92, 125]) := number_digits a ha 44 [92, 125] rfl
  unfold boundsV
  simp only [h1]
  have h2 : mostV (min a 256) [44, 92, 125] = (-1, [92, 125]) := by
    unfold mostV
    rw [show ahead [44] [44, 92, 125] = true from rfl]
    rfl
  simp only [h2]
  have h3 : ahead [92, 125] [92, 125] = true := rfl
  by_cases h : a ≤ 255
  · rw [if_pos h, if_pos ⟨by trivial, h3, by omega, by omega, .inl (by omega)⟩]
    simp [show min a 256 = a by omega]
  · rw [if_neg h, if_neg (fun k => by have := k.2.2.1; omega)]
set_option maxRecDepth 3000 in
theorem bounds_both (a b : Nat) (ha : a < 1000) (hb : b < 1000) : boundsV (digitsV a ++ 44 :: (digitsV b ++ [92, 125])) = if a ≤ 255 ∧ b ≤ 255 ∧ a ≤ b then some (a, (b : Int), []) else none := by
  have h1 : numberV (digitsV a ++ 44 :: (digitsV b ++ [92, 125])) = (min a 256, true, 44 :: (digitsV b ++ [92, 125])) := number_digits a ha 44 _ rfl
  have h1b : numberV (digitsV b ++ [92, 125]) = (min b 256, true, [92, 125]) := number_digits b hb 92 [125] rfl
  unfold boundsV
  simp only [h1]
  have h2 : mostV (min a 256) (44 :: (digitsV b ++ [92, 125])) = (((min b 256 : Nat) : Int), [92, 125]) := by
    unfold mostV
    rw [ahead_cons, ahead_nil]
    simp only [List.drop_succ_cons, List.drop_zero, h1b]
    rfl
  simp only [h2]
  have h3 : ahead [92, 125] [92, 125] = true := rfl
  by_cases h : a ≤ 255 ∧ b ≤ 255 ∧ a ≤ b
  · rw [if_pos h, if_pos ⟨by trivial, h3, by omega, by omega, .inr (by omega)⟩]
    simp [show min a 256 = a by omega, show min b 256 = b by omega]
  · rw [if_neg h, if_neg (fun k => by have := k.2.2.1; have := k.2.2.2.1; have := k.2.2.2.2; omega)]
set_option maxRecDepth 3000 in
theorem part_97 (tail : List UInt8) : partF true false (ps0 (97 :: tail)) = some ((byteN 97, .nil), ⟨tail, 1, 0, false, []⟩) := by
  unfold ps0
  rw [part_plain (by simp [PlainB])]
  rfl
set_option maxRecDepth 3000 in
theorem pat_times_none {tail : List UInt8} (h : boundsV tail = none) : patV (97 :: 92 :: 123 :: tail) = none := by
  unfold patV
  rw [rowF_eq, show stopV (ps0 (97 :: 92 :: 123 :: tail)).left = false by simp [ps0, stopV, ahead_cons], part_97]
  simp only [Bool.false_eq_true, if_false, Option.bind_some]
  rw [show more1 (byteN 97, Fr.nil) (⟨92 :: 123 :: tail, 1, 0, false, []⟩ : PS) = timesF (byteN 97, Fr.nil) ⟨92 :: 123 :: tail, 1, 0, false, []⟩ from rfl, timesF_eq]
  simp only [ahead_cons, ahead_nil]
  simp [h]
set_option maxRecDepth 3000 in
theorem pat_times_some {tail : List UInt8} {m : Nat} {n : Int} (h : boundsV tail = some (m, n, [])) :
    patV (97 :: 92 :: 123 :: tail) = some (.cons (timesN m n) (Fr.one (byteN 97) .nil) .nil, ⟨[], 2, 0, false, []⟩) := by
  unfold patV
  rw [rowF_eq, show stopV (ps0 (97 :: 92 :: 123 :: tail)).left = false by simp [ps0, stopV, ahead_cons], part_97]
  simp only [Bool.false_eq_true, if_false, Option.bind_some]
  have e : timesF (byteN 97, Fr.nil) ⟨92 :: 123 :: tail, 1, 0, false, []⟩ = some ((timesN m n, Fr.one (byteN 97) .nil), ⟨[], 2, 0, false, []⟩) := by
    rw [timesF_eq]
    simp only [ahead_cons, ahead_nil]
    simp [h, node1]
    rw [timesF_eq]
    simp [ahead_empty]
  rw [show more1 (byteN 97, Fr.nil) (⟨92 :: 123 :: tail, 1, 0, false, []⟩ : PS) = timesF (byteN 97, Fr.nil) ⟨92 :: 123 :: tail, 1, 0, false, []⟩ from rfl, e]
  simp only [Option.bind_some]
  rw [row_end]
  rfl
end Go.Proofs.YtnjagecmhdagkaaDoor
