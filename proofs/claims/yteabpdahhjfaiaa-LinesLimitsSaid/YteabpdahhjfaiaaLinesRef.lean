/-
  Lines: the walks of the document's Split, Join, Whole, Check.
-/
import Derived.Test.YteabpdahhjfaiaaLinesSplit
namespace Go.Proofs.Yteabpdahhjfaiaa
open Go.RowKit

theorem tx_mid (s : List UInt8) (f k : Nat) : (tx s).extract f k = tx ((s.drop f).take (k - f)) := by
  apply WideShapes.bytes_inj
  simp [ByteArray.data_extract, Array.toList_extract, tx]
theorem tx_get (s : List UInt8) (k : Nat) (h : k < (tx s).size) : (tx s)[k] = s[k]'(by simpa using h) := by
  simp [tx]; rfl
/-- Lines so far. -/
structure SplitTo (s : List UInt8) (d : List (List UInt8)) (f k : Nat) : Prop where
  le : f ≤ k
  len : k ≤ s.length
  many : d.length ≤ f
  lines : d ++ linesL (s.drop f) = linesL s
  ended : endedL (s.drop f) = endedL s
  none : 10 ∉ (s.drop f).take (k - f)
theorem SplitTo.start (s : List UInt8) : SplitTo s [] 0 0 := ⟨Nat.le_refl _, Nat.zero_le _, Nat.le_refl _, rfl, rfl, by simp⟩
theorem drop_split (s : List UInt8) (f k : Nat) (hf : f ≤ k) (hk : k < s.length) : s.drop f = (s.drop f).take (k - f) ++ s[k] :: s.drop (k + 1) := by
  conv => lhs; rw [← List.take_append_drop (k - f) (s.drop f)]
  congr 1
  rw [List.drop_drop, show f + (k - f) = k by omega, List.drop_eq_getElem_cons hk]
theorem SplitTo.on {s : List UInt8} {d : List (List UInt8)} {f k : Nat} (h : SplitTo s d f k) (hk : k < s.length) (hc : s[k] ≠ 10) : SplitTo s d f (k + 1) := by
  refine ⟨by have := h.le; omega, hk, h.many, h.lines, h.ended, ?_⟩
  have hle := h.le
  rw [show k + 1 - f = (k - f) + 1 by omega, List.take_add_one]
  have e : (s.drop f)[k - f]? = some s[k] := by rw [List.getElem?_drop, show f + (k - f) = k by omega, List.getElem?_eq_getElem hk]
  rw [e]
  simp only [Option.toList, List.mem_append, List.mem_singleton, not_or]
  exact ⟨h.none, Ne.symm hc⟩
theorem SplitTo.cut {s : List UInt8} {d : List (List UInt8)} {f k : Nat} (h : SplitTo s d f k) (hk : k < s.length) (hc : s[k] = 10) : SplitTo s (d ++ [(s.drop f).take (k - f)]) (k + 1) (k + 1) := by
  have hle := h.le
  have e := drop_split s f k hle hk
  rw [hc] at e
  refine ⟨Nat.le_refl _, hk, by have := h.many; simp; omega, ?_, ?_, by simp⟩
  · rw [← h.lines]
    conv => rhs; rw [e, linesL_cut _ _ h.none]
    simp
  · rw [← h.ended]
    conv => rhs; rw [e, endedL_cut _ _ h.none]
theorem SplitTo.whole {s : List UInt8} {d : List (List UInt8)} (h : SplitTo s d s.length s.length) : linesL s = d ∧ endedL s = true := by
  have h1 := h.lines
  have h2 := h.ended
  rw [List.drop_length] at h1 h2
  exact ⟨by rw [← h1]; simp [linesL_nil], by rw [← h2]; rfl⟩
theorem SplitTo.rest {s : List UInt8} {d : List (List UInt8)} {f : Nat} (h : SplitTo s d f s.length) (hf : f ≠ s.length) : linesL s = d ++ [s.drop f] ∧ endedL s = false := by
  have hle := h.le
  have hn := h.none
  rw [List.take_of_length_le (by simp)] at hn
  have h0 : s.drop f ≠ [] := by simp; omega
  exact ⟨by rw [← h.lines, linesL_last _ hn h0], by rw [← h.ended, endedL_last _ hn h0]⟩
/-- The strings of lines. -/
def lv (d : List (List UInt8)) : List Value := (d.map tx).map Value.string
theorem lv_snoc (d : List (List UInt8)) (a : List UInt8) : lv d ++ [.string (tx a)] = lv (d ++ [a]) := by simp [lv]

theorem own_below {w W w1 : World} {k : Nat} {v : Value} {xs : List Value} {tmp : Obj} (hB : Below w.heap.size w W) (hrow : W.ownsRow w.heap.size 9 1 v k xs) (hgrow : (W.alloc tmp).grownBy w1 v.ownBlock) : Below w.heap.size w w1 :=
  (hB.alloc hB.size tmp).grown hgrow (by have := hB.size; simp; omega) (fun j hj => (hrow.lt j hj).1)
set_option maxHeartbeats 1000000 in
theorem refSplit_any (s : List UInt8) (hs : s.length ≤ 8796093022000) (w : World) :
    Calls Try.prog 11 #[.string (tx s)] w fun e W' => ∃ v, e = .returned (.tuple #[v, .bool (endedL s)]) ∧ W'.ownsRow w.heap.size 9 1 v (linesL s).length (lv (linesL s)) ∧ Grows w W' := by
  obtain ⟨i0, hi, hz0, hz1, hz2⟩ := info_parts infoStr
  have hsz : (tx s).size ≤ 8796093022000 := by simpa using hs
  have hszl : (tx s).size = s.length := by simp
  have HSZ := Lib.hid hszl
  clear hszl
  go_enter Try.func11, Try.ntmps11
  go_wp2_with fail
  go_loopg [4, 5, 6] s.length (fun q v a b wr => ∃ (k f : Nat) (d : List (List UInt8)), q + k = s.length ∧ a = .int .i64 f ∧ b = .int .i64 k ∧ wr.ownsRow w.heap.size 9 1 v d.length (lv d) ∧ Below w.heap.size w wr ∧ SplitTo s d f k)
  case atStart => exact ⟨0, 0, [], by omega, rfl, rfl, World.ownsRow_nil _ _ _ _, Below.refl _ _, SplitTo.start s⟩
  case round =>
    obtain ⟨k, f, d, hq, rfl, rfl, hrow, hB, hS⟩ := hrel
    have hfk := hS.le
    have hkl := hS.len
    have hdl := hS.many
    have HQ := Lib.hid hq
    clear hq
    by_cases h1 : k < s.length
    · have h1' : k < (tx s).size := by simpa using h1
      by_cases h2 : s[k] = 10
      · have h2' : (((tx s)[k].toNat : Int) == 10) = true := by rw [show (tx s)[k] = 10 from (tx_get s k h1').trans h2]; rfl
        have hS2 := hS.cut h1 h2
        have HS := Lib.hid hS2
        have HM := Lib.hid (tx_mid s f k)
        clear hS hS2 h2
        go_wp2_with (at_builtin; refine wpList_append_own _ rfl _ _ 22 rfl w.heap.size 9 i0 (.string ⟨#[]⟩) 1 16 Try.underlying22 hi hz0 hz1 hz2 rfl (by decide) _ _ _ rfl (hrow.alloc _) ⟨wr.heap.size, 0, none⟩ 1 1 [.string ((tx s).extract f k)] rfl rfl (cell_one_new _ _ _) (by simp [Value.oneCell']) (by unfold maxLen; omega) (by omega) (by have := hB.size; simp; omega) ?_; intro v' w1 hown' hgrow _)
        go_roundg (gk - 1)
        case measure => have := HQ.out; omega
        case rel => exact ⟨k + 1, k + 1, _, by have := HQ.out; omega, by go_num, by go_num, by rw [HM.out, lv_snoc] at hown'; simpa using hown', own_below hB hrow hgrow, HS.out⟩
      · have h2' : (((tx s)[k].toNat : Int) == 10) = false := by
          rw [tx_get, beq_eq_false_iff_ne]
          intro e
          exact h2 (UInt8.toNat.inj (by have : (10 : UInt8).toNat = 10 := rfl; omega))
        have HS := Lib.hid (hS.on h1 h2)
        clear hS h2
        go_wp2_with fail
        go_roundg (gk - 1)
        case measure => have := HQ.out; omega
        case rel => exact ⟨k + 1, f, d, by have := HQ.out; omega, rfl, by go_num, hrow, hB, HS.out⟩
    · obtain rfl : k = s.length := by omega
      by_cases h2 : f = s.length
      · have h2' : ((f : Int) == (s.length : Int)) = true := by simp [h2]
        have h3' : (f == s.length) = true := by simp [h2]
        have hw := hS
        rw [h2] at hw
        have HW := Lib.hid hw.whole
        clear hS hw h2
        go_wp2_with fail
        go_ret2
        exact ⟨_, by rw [HW.out.2]; rfl, by rw [HW.out.1]; exact hrow, Grows.of_below hB⟩
      · have h2' : ((f : Int) == (s.length : Int)) = false := by simp; omega
        have h3' : (f == s.length) = false := by simp; omega
        have HW := Lib.hid (hS.rest h2)
        have HM := Lib.hid (tx_mid s f s.length)
        have hfl : f ≤ (tx s).size := by simp; omega
        clear hS h2
        go_wp2_with (at_builtin; refine wpList_append_own _ rfl _ _ 22 rfl w.heap.size 9 i0 (.string ⟨#[]⟩) 1 16 Try.underlying22 hi hz0 hz1 hz2 rfl (by decide) _ _ _ rfl (hrow.alloc _) ⟨wr.heap.size, 0, none⟩ 1 1 [.string ((tx s).extract f s.length)] rfl rfl (cell_one_new _ _ _) (by simp [Value.oneCell']) (by unfold maxLen; omega) (by omega) (by have := hB.size; simp; omega) ?_; intro v' w1 hown' hgrow _)
        go_ret2
        refine ⟨v', by rw [HW.out.2]; rfl, ?_, Grows.of_below (own_below hB hrow hgrow)⟩
        rw [HM.out, lv_snoc, List.take_of_length_le (by simp)] at hown'
        rw [HW.out.1]
        simpa using hown'
end Go.Proofs.Yteabpdahhjfaiaa
