/-
  Several texts of the proof: Same, Twin.
-/
import Derived.Test.YthanghgfakibnaaPk01
/-
  inkhornlaw01.Same, walked: for every seat whose code calls it.
-/
namespace Go.Proofs.Ythanghgfakibnaa
open Go.RowKit

/-- Are they the same? -/
def sameV (a b : List ByteArray) : Bool := decide (a = b)
set_option maxRecDepth 3000 in
theorem sameV_len {a b : List ByteArray} (h : a.length ≠ b.length) : sameV a b = false := by
  simp only [sameV, decide_eq_false_iff_not]; rintro rfl; exact h rfl
set_option maxRecDepth 3000 in
theorem sameV_at {a b : List ByteArray} (k : Nat) (ha : k < a.length) (hb : k < b.length) (h : a[k] ≠ b[k]) : sameV a b = false := by
  simp only [sameV, decide_eq_false_iff_not]; rintro rfl; exact h rfl
set_option maxRecDepth 3000 in
theorem sameV_all {a b : List ByteArray} (h : a.length = b.length) (h2 : ∀ k (ha : k < a.length) (hb : k < b.length), a[k] = b[k]) : sameV a b = true := by
  simp only [sameV, decide_eq_true_eq]
  exact List.ext_getElem h h2


/-- Are lines the same? -/
def sameL (a b : List (List UInt8)) : Bool := decide (a = b)
set_option maxRecDepth 3000 in
theorem sameL_self (a : List (List UInt8)) : sameL a a = true := by simp [sameL]
set_option maxRecDepth 3000 in
theorem sameV_tx (a b : List (List UInt8)) : sameV (a.map tx) (b.map tx) = sameL a b := by
  unfold sameV sameL
  by_cases h : a = b
  · subst h; simp
  · simp only [h, decide_false, decide_eq_false_iff_not]
    exact fun e => h (map_tx_inj e)
end Go.Proofs.Ythanghgfakibnaa

/-
  inkhornlaw01.Great, Twin and Left, walked: for every seat whose code calls them.
-/
namespace Go.Proofs.Ythanghgfakibnaa
open Go.RowKit


/-- Bytes, each line's counted up to a bound. -/
def cutSum : List (List UInt8) → Int
  | [] => 0
  | a :: d => min (a.length : Int) 1099511627776 + cutSum d
set_option maxRecDepth 3000 in
theorem cutSum_append (a b : List (List UInt8)) : cutSum (a ++ b) = cutSum a + cutSum b := by
  induction a with
  | nil => simp [cutSum]
  | cons x a ih => simp only [List.cons_append, cutSum, ih]; omega
set_option maxRecDepth 3000 in
theorem cutSum_nonneg (d : List (List UInt8)) : 0 ≤ cutSum d := by
  induction d with
  | nil => simp [cutSum]
  | cons x a ih => simp only [cutSum]; omega
set_option maxRecDepth 3000 in
theorem cutSum_take (d : List (List UInt8)) (k : Nat) (h : k < d.length) : cutSum (d.take (k + 1)) = cutSum (d.take k) + min (d[k].length : Int) 1099511627776 := by
  rw [List.take_add_one, List.getElem?_eq_getElem h, cutSum_append]; simp [cutSum]
/-- All bytes. -/
def byteSum : List (List UInt8) → Nat
  | [] => 0
  | a :: d => a.length + byteSum d
set_option maxRecDepth 3000 in
theorem cutSum_small (d : List (List UInt8)) (n : Int) (hn : n < 1099511627776) (h : cutSum d ≤ n) : (byteSum d : Int) ≤ n ∧ cutSum d = byteSum d := by
  induction d generalizing n with
  | nil => simp [byteSum, cutSum] at *; exact h
  | cons x a ih =>
    simp only [cutSum] at h
    have h0 := cutSum_nonneg a
    have := ih (n - min (x.length : Int) 1099511627776) (by omega) (by omega)
    simp only [byteSum, cutSum]
    omega
set_option maxRecDepth 3000 in
theorem joinL_length (d : List (List UInt8)) : (joinL d).length = byteSum d + d.length := by
  induction d with
  | nil => rfl
  | cons a d ih => simp [joinL, byteSum, ih]; omega
set_option maxRecDepth 3000 in
theorem byteSum_mem (d : List (List UInt8)) : ∀ s ∈ d, s.length ≤ byteSum d := by
  induction d with
  | nil => simp
  | cons a d ih =>
    intro s hs
    rcases List.mem_cons.1 hs with rfl | hs
    · simp [byteSum]
    · have := ih s hs; simp [byteSum]; omega
/-- What Great answers. -/
def GreatPost (d : List (List UInt8)) (many bytes : Int) (w : World) (e : Ending) (w' : World) : Prop :=
  ∃ b, e = .returned (.bool b) ∧ (b = false → (d.length : Int) ≤ many ∧ (byteSum d : Int) ≤ bytes) ∧ w = w'

/-- A twin: new memory with the lines, and a star behind them. -/
def TwinPost (d : List (List UInt8)) (w : World) (e : Ending) (w' : World) : Prop :=
  ∃ g cap, e = .returned (.slice (some ⟨g, 0, none⟩) d.length cap) ∧ d.length < cap ∧ cap ≤ 9223372036854775807 ∧ w'.ownsRow w.heap.size 9 1 (.slice (some ⟨g, 0, none⟩) (d.length + 1) cap) (d.length + 1) (lv (d ++ [[42]])) ∧ Grows w w'

set_option maxRecDepth 3000 in
/-- The lines of a twin. -/
theorem twin_rd {w : World} {base g cap : Nat} {d : List (List UInt8)} (h : w.ownsRow base 9 1 (.slice (some ⟨g, 0, none⟩) (d.length + 1) cap) (d.length + 1) (lv (d ++ [[42]]))) : Rd w 1 (some ⟨g, 0, none⟩) d.length (lv d) := by
  refine ⟨by simp [lv], fun hn => ⟨g, 0, rfl, (h.lt g rfl).2, fun j u hu => ?_⟩⟩
  have hj : j < d.length := by
    have := (List.getElem?_eq_some_iff.1 hu).1
    simpa [lv] using this
  rw [Nat.zero_add, h.cellAt j (by omega), ← lv_append, List.getElem?_append_left (by simpa [lv] using hj)]
  exact hu
set_option maxRecDepth 3000 in
theorem twin_star {w : World} {base g cap : Nat} {d : List (List UInt8)} (h : w.ownsRow base 9 1 (.slice (some ⟨g, 0, none⟩) (d.length + 1) cap) (d.length + 1) (lv (d ++ [[42]]))) : w.cell? ⟨g, d.length, none⟩ = some (.string ⟨#[42]⟩) := by
  rw [h.cellAt d.length (by omega), ← lv_append, List.getElem?_append_right (by simp [lv])]
  simp [lv, tx]
set_option maxRecDepth 3000 in
theorem own_grown {w w' : World} {base n : Nat} {v : Value} {xs : List Value} (h : w.ownsRow base 9 1 v n xs) (hb : Grows w w') : w'.ownsRow base 9 1 v n xs := own_grows h hb

end Go.Proofs.Ythanghgfakibnaa
