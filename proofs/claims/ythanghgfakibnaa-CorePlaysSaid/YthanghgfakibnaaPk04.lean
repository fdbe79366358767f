/-
  Several texts of the proof: RegsPlain, MarksPlain, CorePlain.
-/
import Derived.Test.YthanghgfakibnaaPk03
import Derived.Test.YthanghgfakibnaaPk00
/-
  Registers, in plain words: what each letter has, and how it changes.
-/
namespace Go.Proofs.Ythanghgfakibnaa
open Go.RowKit

/-- A register's text. -/
structure Rg where
  d : List (List UInt8)
  whole : Bool
/-- None. -/
def rg0 : Rg := ⟨[], false⟩
/-- What each letter has. -/
abbrev RS := Int → Option Rg
def rs0 : RS := fun _ => none
def rsSet (S : RS) (k : Int) (x : Rg) : RS := fun j => if j = k then some x else S j
/-- May a register have it? -/
def rcheck (x : Rg) : Bool := decide (0 < x.d.length) && (lcheckV x.d == 0)
/-- The last line of one with the first one of the other. -/
def joinD : List (List UInt8) → List (List UInt8) → List (List UInt8)
  | [], b => b
  | [x], [] => [x]
  | [x], y :: b => (x ++ y) :: b
  | x :: a, b => x :: joinD a b
def rjoin (a b : Rg) : Rg :=
  if a.d.length = 0 ∨ b.d.length = 0 ∨ a.whole = true ∨ b.whole = true then ⟨a.d ++ b.d, a.whole || b.whole⟩ else ⟨joinD a.d b.d, false⟩
set_option maxRecDepth 3000 in
theorem joinD_parts (a : List (List UInt8)) (x y : List UInt8) (b : List (List UInt8)) : joinD (a ++ [x]) (y :: b) = a ++ (x ++ y) :: b := by
  induction a with
  | nil => rfl
  | cons z a ih =>
    rw [List.cons_append, List.cons_append, ← ih]
    cases a with
    | nil => rfl
    | cons w a => rfl
/-- A letter without regard to its case. -/
def lowL (k : Int) : Int := if 65 ≤ k ∧ k ≤ 90 then k + 32 else k
def rget (S : RS) (k : Int) : Rg × Int :=
  match S (lowL k) with
  | none => (rg0, 170)
  | some x => (x, 0)
def rset (S : RS) (k : Int) (x : Rg) : RS × Int :=
  if rcheck x = false then (S, 2)
  else if k = 0 then (rsSet S 0 x, 0)
  else if 65 ≤ k ∧ k ≤ 90 then
    if rcheck (rjoin ((S (k + 32)).getD rg0) x) = false then (S, 3)
    else (rsSet (rsSet S (k + 32) (rjoin ((S (k + 32)).getD rg0) x)) 0 x, 0)
  else if 97 ≤ k ∧ k ≤ 122 then (rsSet (rsSet S k x) 0 x, 0)
  else (S, 170)
/-- Each of the numbered ones goes on by one. -/
def rshift (S : RS) (c : Int) : RS := match S (c - 1) with
  | none => S
  | some x => rsSet S c x
def rshifts (S : RS) : Nat → RS
  | 0 => S
  | n + 1 => rshift (rshifts S n) (57 - n)
def rpush (S : RS) (x : Rg) : RS × Int :=
  if rcheck x = false then (S, 2) else (rsSet (rsSet (rshifts S 8) 49 x) 0 x, 0)
/-- What is laid may be. -/
def RGood (S : RS) : Prop := ∀ k x, S k = some x → rcheck x = true
set_option maxRecDepth 3000 in
theorem rgood0 : RGood rs0 := by intro k x h; cases h
set_option maxRecDepth 3000 in
theorem RGood.set {S : RS} (h : RGood S) (k : Int) {x : Rg} (hx : rcheck x = true) : RGood (rsSet S k x) := by
  intro j y hy
  unfold rsSet at hy
  split at hy
  · cases hy; exact hx
  · exact h j y hy
set_option maxRecDepth 3000 in
theorem RGood.shift {S : RS} (h : RGood S) (c : Int) : RGood (rshift S c) := by
  unfold rshift
  split
  · exact h
  · rename_i x hx; exact h.set c (h _ _ hx)
set_option maxRecDepth 3000 in
theorem RGood.shifts {S : RS} (h : RGood S) : ∀ n, RGood (rshifts S n)
  | 0 => h
  | n + 1 => (RGood.shifts h n).shift _
set_option maxRecDepth 3000 in
theorem RGood.rset {S : RS} (h : RGood S) (k : Int) (x : Rg) : RGood (rset S k x).1 := by
  unfold Go.Proofs.Ythanghgfakibnaa.rset
  repeat' split
  all_goals first
    | exact h
    | exact h.set _ (by simp_all)
    | exact (h.set _ (by simp_all)).set _ (by simp_all)
set_option maxRecDepth 3000 in
theorem RGood.rpush {S : RS} (h : RGood S) (x : Rg) : RGood (rpush S x).1 := by
  unfold Go.Proofs.Ythanghgfakibnaa.rpush
  split
  · exact h
  · exact ((h.shifts 8).set _ (by simp_all)).set _ (by simp_all)
set_option maxRecDepth 3000 in
theorem rcheck_len {x : Rg} (h : rcheck x = true) : 0 < x.d.length ∧ x.d.length ≤ 2000 ∧ ∀ s ∈ x.d, s.length ≤ 1000 := by
  unfold rcheck lcheckV at h
  simp only [Bool.and_eq_true, decide_eq_true_eq] at h
  obtain ⟨h1, h2⟩ := h
  refine ⟨h1, ?_⟩
  split at h2
  · simp at h2
  · split at h2
    · simp at h2
    · rename_i h3
      simp only [Bool.or_eq_true, decide_eq_true_eq, List.any_eq_true, not_or, not_exists, not_and] at h3
      refine ⟨by omega, fun s hs => ?_⟩
      have := h3.2 s hs
      simp [tooLong] at this
      omega
/-- Not greater than may be read. -/
structure Rg.fits (x : Rg) : Prop where
  len : x.d.length ≤ 4000
  each : ∀ s ∈ x.d, s.length ≤ 4000
set_option maxRecDepth 3000 in
theorem rg0_fits : rg0.fits := ⟨by simp [rg0], by simp [rg0]⟩
set_option maxRecDepth 3000 in
theorem rcheck_fits {x : Rg} (h : rcheck x = true) : x.d.length ≤ 2000 ∧ ∀ s ∈ x.d, s.length ≤ 1000 := (rcheck_len h).2
set_option maxRecDepth 3000 in
theorem RGood.getD {S : RS} (h : RGood S) (k : Int) : ((S k).getD rg0).d.length ≤ 2000 ∧ ∀ s ∈ ((S k).getD rg0).d, s.length ≤ 1000 := by
  cases hk : S k with
  | none => exact ⟨by simp [rg0], by simp [rg0]⟩
  | some x => exact rcheck_fits (h _ _ hk)
set_option maxRecDepth 3000 in
theorem joinD_fits (a b : List (List UInt8)) (n m : Nat) (ha : ∀ s ∈ a, s.length ≤ n) (hb : ∀ s ∈ b, s.length ≤ m) : (joinD a b).length ≤ a.length + b.length ∧ ∀ s ∈ joinD a b, s.length ≤ n + m := by
  induction a with
  | nil => exact ⟨by simp [joinD], fun s hs => by have := hb s hs; omega⟩
  | cons x a ih =>
    cases a with
    | nil =>
      cases b with
      | nil => exact ⟨by simp [joinD], fun s hs => by have := ha s hs; omega⟩
      | cons y b =>
        refine ⟨by simp [joinD], fun s hs => ?_⟩
        simp only [joinD, List.mem_cons] at hs
        rcases hs with rfl | hs
        · have := ha x (by simp); have := hb y (by simp); simp; omega
        · have := hb s (by simp [hs]); omega
    | cons z a =>
      obtain ⟨h1, h2⟩ := ih (fun s hs => ha s (by simp [hs]))
      have e : joinD (x :: z :: a) b = x :: joinD (z :: a) b := by cases b <;> rfl
      rw [e]
      refine ⟨by simp at h1 ⊢; omega, fun s hs => ?_⟩
      rcases List.mem_cons.1 hs with rfl | hs
      · have := ha s (by simp); omega
      · exact h2 s hs
set_option maxRecDepth 3000 in
theorem rjoin_fits (a b : Rg) (ha : a.d.length ≤ 2000 ∧ ∀ s ∈ a.d, s.length ≤ 1000) (hb : b.d.length ≤ 2000 ∧ ∀ s ∈ b.d, s.length ≤ 1000) : (rjoin a b).fits := by
  unfold rjoin
  split
  · refine ⟨by simp; omega, fun s hs => ?_⟩
    simp only [List.mem_append] at hs
    rcases hs with hs | hs
    · have := ha.2 s hs; omega
    · have := hb.2 s hs; omega
  · obtain ⟨h1, h2⟩ := joinD_fits a.d b.d 1000 1000 ha.2 hb.2
    exact ⟨by simp; omega, fun s hs => by have := h2 s hs; omega⟩
end Go.Proofs.Ythanghgfakibnaa

/-
  Marks: the plain functions that marks.Line, Shift, Set, Get and Check compute.
-/
namespace Go.Proofs.Ythanghgfakibnaa
open Go.RowKit

/-- Where line n is behind a splice. -/
def lineV (n at_ del len : Int) : Int × Bool :=
  if n < 1 ∨ at_ < 0 ∨ del < 0 then (0, false)
  else if n ≤ at_ then (n, true)
  else if n - at_ ≤ del then (0, false)
  else (wrap64 (n - del + len), true)

/-- Marks as a value: an array of numbers. -/
def MA (ms : List Int) : Array Value := (ms.map (Value.int .i64)).toArray
set_option maxRecDepth 3000 in
@[simp, go_sem] theorem size_MA (ms : List Int) : (MA ms).size = ms.length := by simp [MA]
set_option maxRecDepth 3000 in
@[go_sem] theorem oneCells_MA (ms : List Int) : OneCells (MA ms) := by
  simp [OneCells, MA, Value.oneCell']
set_option maxRecDepth 3000 in
@[go_sem] theorem get_MA (ms : List Int) (i : Nat) : (MA ms)[i]? = ms[i]?.map (Value.int .i64) := by
  simp [MA]
set_option maxRecDepth 3000 in
@[go_sem] theorem getElem_MA (ms : List Int) (i : Nat) (h : i < (MA ms).size) : (MA ms)[i] = .int .i64 (ms[i]'(by simpa using h)) := by
  simp [MA]
set_option maxRecDepth 3000 in
theorem set_MA (ms : List Int) (i : Nat) (n : Int) : (MA ms).setIfInBounds i (.int .i64 n) = MA (ms.set i n) := by
  simp [MA]
/-- No mark is set. -/
def zeros : List Int := List.replicate 26 0
set_option maxRecDepth 3000 in
@[simp, go_sem] theorem length_zeros : zeros.length = 26 := rfl
/-- The marks behind a splice. -/
def shiftV (ms : List Int) (at_ del len : Int) : List Int := ms.map fun n => (lineV n at_ del len).1

set_option maxRecDepth 3000 in
theorem wrap64_i64 (n : Int) : I64 (wrap64 n) := by
  unfold I64 wrap64; omega
set_option maxRecDepth 3000 in
theorem lineV_i64 (n at_ del len : Int) (h : I64 n) : I64 (lineV n at_ del len).1 := by
  unfold lineV
  repeat' split
  · exact ⟨by decide, by decide⟩
  · exact h
  · exact ⟨by decide, by decide⟩
  · exact wrap64_i64 _
/-- The marks, the first k shifted, the others those of a list z. -/
def shiftOnto (z ms : List Int) (at_ del len : Int) (k : Nat) : List Int := (shiftV ms at_ del len).take k ++ z.drop k
set_option maxRecDepth 3000 in
@[simp, go_sem] theorem length_shiftV (ms : List Int) (at_ del len : Int) : (shiftV ms at_ del len).length = ms.length := by simp [shiftV]
set_option maxRecDepth 3000 in
theorem length_shiftOnto (z ms : List Int) (at_ del len : Int) (k : Nat) (h : z.length = ms.length) : (shiftOnto z ms at_ del len k).length = ms.length := by
  simp [shiftOnto]; omega
set_option maxRecDepth 3000 in
theorem shiftOnto_zero (z ms : List Int) (at_ del len : Int) : shiftOnto z ms at_ del len 0 = z := by simp [shiftOnto]
set_option maxRecDepth 3000 in
theorem shiftOnto_all (z ms : List Int) (at_ del len : Int) (k : Nat) (h : ms.length ≤ k) (hz : z.length = ms.length) : shiftOnto z ms at_ del len k = shiftV ms at_ del len := by
  unfold shiftOnto
  rw [List.take_of_length_le (by simpa using h), List.drop_eq_nil_of_le (by omega), List.append_nil]
set_option maxRecDepth 3000 in
theorem shiftOnto_set (z ms : List Int) (at_ del len : Int) (k : Nat) (h : k < ms.length) (hz : z.length = ms.length) :
    (shiftOnto z ms at_ del len k).set k (lineV ms[k] at_ del len).1 = shiftOnto z ms at_ del len (k + 1) := by
  apply List.ext_getElem?
  intro i
  have hs : (shiftV ms at_ del len)[k]? = some (lineV ms[k] at_ del len).1 := by simp [shiftV, h]
  simp only [shiftOnto, List.getElem?_set, List.getElem?_append, List.length_append, List.length_take, length_shiftV, List.length_drop, List.getElem?_take, List.getElem?_drop]
  by_cases hik : k = i
  · subst hik
    rw [if_pos rfl, if_pos (by omega), if_pos (by omega), if_pos (by omega), hs]
  · rw [if_neg hik]
    by_cases hlt : i < k
    · rw [if_pos (by omega), if_pos hlt, if_pos (by omega), if_pos (by omega)]
    · rw [if_neg (by omega), if_neg (by omega)]
      congr 1
      omega
/-- The marks, of which the first k are shifted. -/
def shiftTo (ms : List Int) (at_ del len : Int) (k : Nat) : List Int := shiftOnto ms ms at_ del len k
set_option maxRecDepth 3000 in
@[simp, go_sem] theorem length_shiftTo (ms : List Int) (at_ del len : Int) (k : Nat) : (shiftTo ms at_ del len k).length = ms.length := length_shiftOnto ms ms at_ del len k rfl
set_option maxRecDepth 3000 in
theorem shiftTo_zero (ms : List Int) (at_ del len : Int) : shiftTo ms at_ del len 0 = ms := shiftOnto_zero ms ms at_ del len
set_option maxRecDepth 3000 in
theorem shiftTo_all (ms : List Int) (at_ del len : Int) (k : Nat) (h : ms.length ≤ k) : shiftTo ms at_ del len k = shiftV ms at_ del len := shiftOnto_all ms ms at_ del len k h rfl
set_option maxRecDepth 3000 in
theorem shiftTo_set (ms : List Int) (at_ del len : Int) (k : Nat) (h : k < ms.length) :
    (shiftTo ms at_ del len k).set k (lineV ms[k] at_ del len).1 = shiftTo ms at_ del len (k + 1) := shiftOnto_set ms ms at_ del len k h rfl
/-- Marks, one of which is set. -/
def setV (ms : List Int) (c line n : Int) : List Int × Int :=
  if c < 97 ∨ 122 < c then (zeros, 202) else if line < 1 ∨ n < line then (zeros, 200) else (ms.set (c - 97).toNat line, 0)
/-- The line of a mark. -/
def getV (ms : List Int) (c : Int) : Int × Int :=
  if c < 97 ∨ 122 < c ∨ ms.getD (c - 97).toNat 0 < 1 then (0, 202) else (ms.getD (c - 97).toNat 0, 0)
set_option maxRecDepth 3000 in
theorem setV_bad (ms : List Int) (c line n : Int) (h : c < 97 ∨ 122 < c) : setV ms c line n = (zeros, 202) := by unfold setV; rw [if_pos h]
set_option maxRecDepth 3000 in
theorem setV_addr (ms : List Int) (j : Nat) (line n : Int) (hj : j < 26) (h : line < 1 ∨ n < line) : setV ms (97 + j) line n = (zeros, 200) := by
  unfold setV; rw [if_neg (by omega), if_pos h]
set_option maxRecDepth 3000 in
theorem setV_good (ms : List Int) (j : Nat) (line n : Int) (hj : j < 26) (h : ¬ (line < 1 ∨ n < line)) : setV ms (97 + j) line n = (ms.set j line, 0) := by
  unfold setV; rw [if_neg (by omega), if_neg h, show ((97 : Int) + j - 97).toNat = j by omega]
set_option maxRecDepth 3000 in
theorem getV_bad (ms : List Int) (c : Int) (h : c < 97 ∨ 122 < c) : getV ms c = (0, 202) := by unfold getV; rw [if_pos (by omega)]
set_option maxRecDepth 3000 in
theorem getV_none (ms : List Int) (j : Nat) (hj : j < ms.length) (h : ms[j] < 1) : getV ms (97 + j) = (0, 202) := by
  unfold getV; rw [if_pos]; right; right; rw [show ((97 : Int) + j - 97).toNat = j by omega]; simpa [List.getD, hj] using h
set_option maxRecDepth 3000 in
theorem getV_good (ms : List Int) (j : Nat) (hj : j < ms.length) (hj' : j < 26) (h : ¬ ms[j] < 1) : getV ms (97 + j) = (ms[j], 0) := by
  have e : ms.getD ((97 : Int) + j - 97).toNat 0 = ms[j] := by rw [show ((97 : Int) + j - 97).toNat = j by omega]; simp [List.getD, hj]
  unfold getV; rw [e, if_neg (by omega)]
/-- May marks be those of n lines? -/
def checkV (ms : List Int) (n : Int) : Bool := ms.all fun k => decide (0 ≤ k ∧ k ≤ n)
set_option maxRecDepth 3000 in
theorem checkV_false (ms : List Int) (n : Int) (k : Nat) (hk : k < ms.length) (h : ms[k] < 0 ∨ n < ms[k]) : checkV ms n = false := by
  unfold checkV
  rw [List.all_eq_false]
  exact ⟨ms[k], List.getElem_mem _, by simp; omega⟩
set_option maxRecDepth 3000 in
theorem checkV_true (ms : List Int) (n : Int) (h : ∀ j (hj : j < ms.length), 0 ≤ ms[j] ∧ ms[j] ≤ n) : checkV ms n = true := by
  unfold checkV
  rw [List.all_eq_true]
  intro x hx
  obtain ⟨j, hj, rfl⟩ := List.getElem_of_mem hx
  simpa using h j hj
end Go.Proofs.Ythanghgfakibnaa

/-
  Core: a buffer that is being edited, in plain words.
-/
namespace Go.Proofs.Ythanghgfakibnaa
open Go.RowKit

/-- A splice. -/
structure SpV where
  at_ : Int
  del : Int
  ins : List (List UInt8)
/-- Lines, current line, marks. -/
structure StV where
  L : List (List UInt8)
  cur : Int
  ms : List Int
/-- A buffer that is being edited. -/
structure CoV where
  s : StV
  last : List UInt8
  regs : RS
  dirty : Bool
  undo : Option StV
  was : Option (StV × RS)
  did : List SpV
def coNew (l : List (List UInt8)) : CoV := ⟨⟨l, l.length, zeros⟩, [], rs0, false, none, none, []⟩
def coGo (c : CoV) (line : Int) : CoV × Int := if line < 0 ∨ (c.s.L.length : Int) < line then (c, 200) else ({ c with s := { c.s with cur := line } }, 0)
def coMark (c : CoV) (letter line : Int) : CoV × Int :=
  if (setV c.s.ms letter line c.s.L.length).2 = 0 then ({ c with s := { c.s with ms := (setV c.s.ms letter line c.s.L.length).1 } }, 0) else (c, (setV c.s.ms letter line c.s.L.length).2)
def coBegin (c : CoV) : CoV × Int := if c.was.isSome = true then (c, 2) else ({ c with was := some (c.s, c.regs), did := [] }, 0)
/-- The current line behind a splice. -/
def curV (n : Int) (x : SpV) (many : Nat) : Int := if (lineV n x.at_ x.del x.ins.length).2 = true then (lineV n x.at_ x.del x.ins.length).1 else min (x.at_ + 1) many
def coSpliced (c : CoV) (x : SpV) (l : List (List UInt8)) : CoV := { c with s := ⟨l, curV c.s.cur x l.length, shiftV c.s.ms x.at_ x.del x.ins.length⟩, did := c.did ++ [x] }
def coSplice (c : CoV) (x : SpV) : CoV × Int :=
  if c.was.isSome = false then (c, 2) else
  if (spliceV c.s.L x.at_ x.del x.ins).2 ≠ 0 then (c, (spliceV c.s.L x.at_ x.del x.ins).2) else (coSpliced c x (spliceV c.s.L x.at_ x.del x.ins).1, 0)
def coEnd (c : CoV) : CoV × List SpV :=
  match c.was with
  | none => (c, [])
  | some y => if c.did.length = 0 then ({ c with was := none, did := [] }, []) else ({ c with undo := some y.1, dirty := true, was := none, did := [] }, c.did)
def coAbort (c : CoV) : CoV :=
  match c.was with
  | none => c
  | some y => { c with s := y.1, regs := y.2, was := none, did := [] }
def coUndo (c : CoV) : CoV × Int :=
  if c.was.isSome = true then (c, 2) else
  match c.undo with
  | none => (c, 190)
  | some s => ({ c with s := s, undo := some c.s, dirty := true }, 0)
def coSet (c : CoV) (letter : Int) (x : Rg) : CoV × Int := ({ c with regs := (rset c.regs letter x).1 }, (rset c.regs letter x).2)
/-- What may be. -/
structure StV.good (s : StV) : Prop where
  len : s.L.length ≤ 2000
  cur : I64 s.cur
  many : s.ms.length = 26
  ms : ∀ m ∈ s.ms, I64 m
structure SpV.good (x : SpV) : Prop where
  at_ : I64 x.at_
  del : I64 x.del
  ins : lcheckV x.ins = 0
structure CoV.good (c : CoV) : Prop where
  s : c.s.good
  undo : ∀ s, c.undo = some s → s.good
  was : ∀ y, c.was = some y → y.1.good
  did : ∀ x ∈ c.did, x.good
set_option maxRecDepth 3000 in
theorem i64_nat {n : Nat} (h : n ≤ 1000000) : I64 (n : Int) := by unfold I64; omega
set_option maxRecDepth 3000 in
theorem coNew_good {l : List (List UInt8)} (h : l.length ≤ 2000) : (coNew l).good :=
  ⟨⟨h, i64_nat (by omega), rfl, fun m hm => by rw [List.eq_of_mem_replicate hm]; exact ⟨by decide, by decide⟩⟩, (fun s h => by cases h), (fun y h => by cases h), (fun x h => by cases h)⟩
section
variable {c : CoV}
set_option maxRecDepth 3000 in
theorem CoV.good.go (h : c.good) {line : Int} : (coGo c line).1.good := by
  unfold coGo
  split
  · exact h
  · rename_i h1
    have := h.s.len
    exact ⟨⟨h.s.len, by show I64 line; unfold I64; omega, h.s.many, h.s.ms⟩, h.undo, h.was, h.did⟩
set_option maxRecDepth 3000 in
theorem CoV.good.mark (h : c.good) {letter line : Int} : (coMark c letter line).1.good := by
  unfold coMark
  split
  · rename_i h1
    refine ⟨⟨h.s.len, h.s.cur, ?_, ?_⟩, h.undo, h.was, h.did⟩
    all_goals
      have hl := h.s.len
      have h2 := h.s.many
      have h3 := h.s.ms
      simp only [setV] at h1 ⊢
      split at h1
      · simp at h1
      · split at h1
        · simp at h1
        · rename_i g1 g2
          first
            | (simp [g1, g2, h2]; done)
            | (intro m hm
               simp only [g1, g2, if_false] at hm
               rcases List.mem_or_eq_of_mem_set hm with hm | rfl
               · exact h3 m hm
               · unfold I64; omega)
  · exact h
set_option maxRecDepth 3000 in
theorem CoV.good.begin_ (h : c.good) : (coBegin c).1.good := by
  unfold coBegin
  split
  · exact h
  · exact ⟨h.s, h.undo, (fun y e => by cases e; exact h.s), (fun x e => by cases e)⟩
set_option maxRecDepth 3000 in
theorem spliceV_ok {d : List (List UInt8)} {a e : Int} {ins : List (List UInt8)} (h : (spliceV d a e ins).2 = 0) : 0 ≤ a ∧ 0 ≤ e ∧ a ≤ d.length ∧ e ≤ (d.length : Int) - a ∧ lcheckV ins = 0 ∧ (spliceV d a e ins).1.length = d.length - e.toNat + ins.length ∧ (spliceV d a e ins).1.length ≤ 2000 ∧ (spliceV d a e ins).1 = d.take a.toNat ++ (ins ++ d.drop (a.toNat + e.toNat)) := by
  unfold spliceV at h ⊢
  by_cases h1 : a < 0 ∨ e < 0 ∨ (d.length : Int) < a ∨ (d.length : Int) - a < e ∨ lcheckV ins = 2
  · rw [if_pos h1] at h; simp at h
  · rw [if_neg h1] at h ⊢
    by_cases h2 : lcheckV ins ≠ 0 ∨ 2000 < (d.length : Int) - e + ins.length
    · rw [if_pos h2] at h; simp at h
    · rw [if_neg h2]
      simp only [List.length_append, List.length_take, List.length_drop]
      have h3 : lcheckV ins = 0 := by
        by_cases h4 : lcheckV ins = 0
        · exact h4
        · exact absurd (.inl h4) h2
      exact ⟨by omega, by omega, by omega, by omega, h3, by omega, by omega, trivial⟩
set_option maxRecDepth 3000 in
theorem curV_i64 {n : Int} {x : SpV} {many : Nat} (hn : I64 n) (h0 : 0 ≤ x.at_) (h1 : x.at_ ≤ 1000000) (hm : many ≤ 1000000) : I64 (curV n x many) := by
  unfold curV
  split
  · exact lineV_i64 _ _ _ _ hn
  · unfold I64; omega
set_option maxRecDepth 3000 in
theorem CoV.good.splice (h : c.good) {x : SpV} (hx : I64 x.at_ ∧ I64 x.del) : (coSplice c x).1.good := by
  unfold coSplice
  split
  · exact h
  · split
    · exact h
    · rename_i h1 h2
      have h2 : (spliceV c.s.L x.at_ x.del x.ins).2 = 0 := by simpa using h2
      obtain ⟨a1, a2, a3, a4, a5, a6, a7, a8⟩ := spliceV_ok h2
      have hl := h.s.len
      refine ⟨⟨a7, curV_i64 h.s.cur a1 (by omega) (by omega), by simp [coSpliced, h.s.many], fun m hm => ?_⟩, h.undo, h.was, fun y hy => ?_⟩
      · simp only [coSpliced, shiftV, List.mem_map] at hm
        obtain ⟨n, hn, rfl⟩ := hm
        exact lineV_i64 _ _ _ _ (h.s.ms n hn)
      · rcases List.mem_append.1 hy with hy | hy
        · exact h.did y hy
        · simp at hy; subst hy; exact ⟨hx.1, hx.2, a5⟩
set_option maxRecDepth 3000 in
theorem CoV.good.end_ (h : c.good) : (coEnd c).1.good := by
  unfold coEnd
  split
  · exact h
  · rename_i y hy
    split
    · exact ⟨h.s, h.undo, (fun y h => by cases h), (fun x e => by cases e)⟩
    · exact ⟨h.s, (fun s e => by cases e; exact h.was _ hy), (fun y h => by cases h), (fun x e => by cases e)⟩
set_option maxRecDepth 3000 in
theorem CoV.good.abort (h : c.good) : (coAbort c).good := by
  unfold coAbort
  split
  · exact h
  · rename_i y hy
    exact ⟨h.was _ hy, h.undo, (fun y h => by cases h), (fun x e => by cases e)⟩
set_option maxRecDepth 3000 in
theorem CoV.good.undo_ (h : c.good) : (coUndo c).1.good := by
  unfold coUndo
  split
  · exact h
  · split
    · exact h
    · rename_i s hs
      exact ⟨h.undo _ hs, (fun s e => by cases e; exact h.s), h.was, h.did⟩
end
end Go.Proofs.Ythanghgfakibnaa
