/-
  Marks: the plain functions that marks.Line, Shift, Set, Get and Check compute.
-/
import Derived.Test.YthmfhcnminkhaaaKit
namespace Go.Proofs.Ythmfhcnminkhaaa
open Go.RowKit

/-- Where line n is behind a splice. -/
def lineV (n at_ del len : Int) : Int × Bool :=
  if n < 1 ∨ at_ < 0 ∨ del < 0 then (0, false)
  else if n ≤ at_ then (n, true)
  else if n - at_ ≤ del then (0, false)
  else (wrap64 (n - del + len), true)

/-- Marks as a value: an array of numbers. -/
def MA (ms : List Int) : Array Value := (ms.map (Value.int .i64)).toArray
@[simp, go_sem] theorem size_MA (ms : List Int) : (MA ms).size = ms.length := by simp [MA]
@[go_sem] theorem oneCells_MA (ms : List Int) : OneCells (MA ms) := by
  simp [OneCells, MA, Value.oneCell']
@[go_sem] theorem get_MA (ms : List Int) (i : Nat) : (MA ms)[i]? = ms[i]?.map (Value.int .i64) := by
  simp [MA]
@[go_sem] theorem getElem_MA (ms : List Int) (i : Nat) (h : i < (MA ms).size) : (MA ms)[i] = .int .i64 (ms[i]'(by simpa using h)) := by
  simp [MA]
theorem set_MA (ms : List Int) (i : Nat) (n : Int) : (MA ms).setIfInBounds i (.int .i64 n) = MA (ms.set i n) := by
  simp [MA]
/-- No mark is set. -/
def zeros : List Int := List.replicate 26 0
@[simp, go_sem] theorem length_zeros : zeros.length = 26 := rfl
/-- The marks behind a splice. -/
def shiftV (ms : List Int) (at_ del len : Int) : List Int := ms.map fun n => (lineV n at_ del len).1

theorem wrap64_i64 (n : Int) : I64 (wrap64 n) := by
  unfold I64 wrap64; omega
theorem lineV_i64 (n at_ del len : Int) (h : I64 n) : I64 (lineV n at_ del len).1 := by
  unfold lineV
  repeat' split
  · exact ⟨by decide, by decide⟩
  · exact h
  · exact ⟨by decide, by decide⟩
  · exact wrap64_i64 _
/-- The marks, the first k shifted, the others those of a list z. -/
def shiftOnto (z ms : List Int) (at_ del len : Int) (k : Nat) : List Int := (shiftV ms at_ del len).take k ++ z.drop k
@[simp, go_sem] theorem length_shiftV (ms : List Int) (at_ del len : Int) : (shiftV ms at_ del len).length = ms.length := by simp [shiftV]
theorem length_shiftOnto (z ms : List Int) (at_ del len : Int) (k : Nat) (h : z.length = ms.length) : (shiftOnto z ms at_ del len k).length = ms.length := by
  simp [shiftOnto]; omega
theorem shiftOnto_zero (z ms : List Int) (at_ del len : Int) : shiftOnto z ms at_ del len 0 = z := by simp [shiftOnto]
theorem shiftOnto_all (z ms : List Int) (at_ del len : Int) (k : Nat) (h : ms.length ≤ k) (hz : z.length = ms.length) : shiftOnto z ms at_ del len k = shiftV ms at_ del len := by
  unfold shiftOnto
  rw [List.take_of_length_le (by simpa using h), List.drop_eq_nil_of_le (by omega), List.append_nil]
theorem shiftOnto_set (z ms : List Int) (at_ del len : Int) (k : Nat) (h : k < ms.length) (hz : z.length = ms.length) :
    (shiftOnto z ms at_ del len k).set k (lineV ms[k] at_ del len).1 = shiftOnto z ms at_ del len (k + 1) := by
  apply List.ext_getElem?
  intro i
  have hs : (shiftV ms at_ del len)[k]? = some (lineV ms[k] at_ del len).1 := by simp [shiftV, h]
  simp only [shiftOnto, List.getElem?_set, List.getElem?_append, List.length_append, List.length_take, length_shiftV, List.length_drop, List.getElem?_take, List.getElem?_drop]
  by_cases hik : k = i
  · subst hik
    rw [if_pos rfl, if_pos (by omega), if_pos (by omega), if_pos (by omega), hs]
  · rw [if_neg hik]
    by_cases hlt : i < k
    · rw [if_pos (by omega), if_pos hlt, if_pos (by omega), if_pos (by omega)]
    · rw [if_neg (by omega), if_neg (by omega)]
      congr 1
      omega
/-- The marks, of which the first k are shifted. -/
def shiftTo (ms : List Int) (at_ del len : Int) (k : Nat) : List Int := shiftOnto ms ms at_ del len k
@[simp, go_sem] theorem length_shiftTo (ms : List Int) (at_ del len : Int) (k : Nat) : (shiftTo ms at_ del len k).length = ms.length := length_shiftOnto ms ms at_ del len k rfl
theorem shiftTo_zero (ms : List Int) (at_ del len : Int) : shiftTo ms at_ del len 0 = ms := shiftOnto_zero ms ms at_ del len
theorem shiftTo_all (ms : List Int) (at_ del len : Int) (k : Nat) (h : ms.length ≤ k) : shiftTo ms at_ del len k = shiftV ms at_ del len := shiftOnto_all ms ms at_ del len k h rfl
theorem shiftTo_set (ms : List Int) (at_ del len : Int) (k : Nat) (h : k < ms.length) :
    (shiftTo ms at_ del len k).set k (lineV ms[k] at_ del len).1 = shiftTo ms at_ del len (k + 1) := shiftOnto_set ms ms at_ del len k h rfl
/-- Marks, one of which is set. -/
def setV (ms : List Int) (c line n : Int) : List Int × Int :=
  if c < 97 ∨ 122 < c then (zeros, 202) else if line < 1 ∨ n < line then (zeros, 200) else (ms.set (c - 97).toNat line, 0)
/-- The line of a mark. -/
def getV (ms : List Int) (c : Int) : Int × Int :=
  if c < 97 ∨ 122 < c ∨ ms.getD (c - 97).toNat 0 < 1 then (0, 202) else (ms.getD (c - 97).toNat 0, 0)
theorem setV_bad (ms : List Int) (c line n : Int) (h : c < 97 ∨ 122 < c) : setV ms c line n = (zeros, 202) := by unfold setV; rw [if_pos h]
theorem setV_addr (ms : List Int) (j : Nat) (line n : Int) (hj : j < 26) (h : line < 1 ∨ n < line) : setV ms (97 + j) line n = (zeros, 200) := by
  unfold setV; rw [if_neg (by omega), if_pos h]
theorem setV_good (ms : List Int) (j : Nat) (line n : Int) (hj : j < 26) (h : ¬ (line < 1 ∨ n < line)) : setV ms (97 + j) line n = (ms.set j line, 0) := by
  unfold setV; rw [if_neg (by omega), if_neg h, show ((97 : Int) + j - 97).toNat = j by omega]
theorem getV_bad (ms : List Int) (c : Int) (h : c < 97 ∨ 122 < c) : getV ms c = (0, 202) := by unfold getV; rw [if_pos (by omega)]
theorem getV_none (ms : List Int) (j : Nat) (hj : j < ms.length) (h : ms[j] < 1) : getV ms (97 + j) = (0, 202) := by
  unfold getV; rw [if_pos]; right; right; rw [show ((97 : Int) + j - 97).toNat = j by omega]; simpa [List.getD, hj] using h
theorem getV_good (ms : List Int) (j : Nat) (hj : j < ms.length) (hj' : j < 26) (h : ¬ ms[j] < 1) : getV ms (97 + j) = (ms[j], 0) := by
  have e : ms.getD ((97 : Int) + j - 97).toNat 0 = ms[j] := by rw [show ((97 : Int) + j - 97).toNat = j by omega]; simp [List.getD, hj]
  unfold getV; rw [e, if_neg (by omega)]
/-- May marks be those of n lines? -/
def checkV (ms : List Int) (n : Int) : Bool := ms.all fun k => decide (0 ≤ k ∧ k ≤ n)
theorem checkV_false (ms : List Int) (n : Int) (k : Nat) (hk : k < ms.length) (h : ms[k] < 0 ∨ n < ms[k]) : checkV ms n = false := by
  unfold checkV
  rw [List.all_eq_false]
  exact ⟨ms[k], List.getElem_mem _, by simp; omega⟩
theorem checkV_true (ms : List Int) (n : Int) (h : ∀ j (hj : j < ms.length), 0 ≤ ms[j] ∧ ms[j] ≤ n) : checkV ms n = true := by
  unfold checkV
  rw [List.all_eq_true]
  intro x hx
  obtain ⟨j, hj, rfl⟩ := List.getElem_of_mem hx
  simpa using h j hj
end Go.Proofs.Ythmfhcnminkhaaa
