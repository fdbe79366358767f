/-
  Pieces: the walks of the document's Lines and Splice.
-/
import Derived.Test.YtblcggmbaofflaaPiecesPlain
import Derived.Test.YtblcggmbaofflaaRefCheck
import Derived.Test.YtblcggmbaofflaaBlk
import Derived.Test.YtblcggmbaofflaaStep
namespace Go.Proofs.Ytblcggmbaofflaa
open Go.RowKit

/-- The lines from one number on, up to another one. -/
def rangeV (d : List (List UInt8)) (f t : Int) : List (List UInt8) := (d.take t.toNat).drop (max f 1 - 1).toNat
theorem rangeV_yes (d : List (List UInt8)) (f t : Int) (k : Nat) (h : k < d.length) (h1 : f ≤ k + 1) (h2 : (k : Int) + 1 ≤ t) : rangeV (d.take (k + 1)) f t = rangeV (d.take k) f t ++ [d[k]] := by
  unfold rangeV
  rw [List.take_take, List.take_take, Nat.min_eq_right (by omega), Nat.min_eq_right (by omega), List.take_add_one, List.getElem?_eq_getElem h, List.drop_append_of_le_length (by simp; omega)]
  rfl
theorem rangeV_no (d : List (List UInt8)) (f t : Int) (k : Nat) (h : k < d.length) (h1 : ¬ (f ≤ k + 1 ∧ (k : Int) + 1 ≤ t)) : rangeV (d.take (k + 1)) f t = rangeV (d.take k) f t := by
  unfold rangeV
  rw [List.take_take, List.take_take]
  by_cases h2 : (k : Int) + 1 ≤ t
  · have h3 : ¬ f ≤ k + 1 := fun h3 => h1 ⟨h3, h2⟩
    rw [List.drop_eq_nil_of_le (by simp; omega), List.drop_eq_nil_of_le (by simp; omega)]
  · rw [Nat.min_eq_left (by omega), Nat.min_eq_left (by omega)]
theorem rangeV_le (d : List (List UInt8)) (f t : Int) : (rangeV d f t).length ≤ d.length := by simp [rangeV]; omega
theorem lv_snoc' (d : List (List UInt8)) (a : List UInt8) : lv d ++ [.string (tx a)] = lv (d ++ [a]) := by simp [lv]

set_option maxHeartbeats 1000000 in
theorem refLines_any (A : Option Addr) (cap : Nat) (d : List (List UInt8)) (f t : Int) (w : World) (hA : Rd w 1 A d.length (lv d)) (hd : d.length ≤ 1000000) (hf : I64 f) (ht : I64 t) :
    Calls Try.prog 25 #[.slice A d.length cap, .int .i64 f, .int .i64 t] w (NewLines (rangeV d f t) w) := by
  obtain ⟨i0, hi, hz0, hz1, hz2⟩ := info_parts infoStr
  unfold I64 at hf ht
  go_enter Try.func25, Try.ntmps25
  go_wp2_with fail
  go_loopg [7, 8] d.length (fun q v i wr => ∃ k : Nat, q + k = d.length ∧ i = .int .i64 k ∧ wr.ownsRow w.heap.size 9 1 v (rangeV (d.take k) f t).length (lv (rangeV (d.take k) f t)) ∧ Below w.heap.size w wr)
  case atStart => exact ⟨0, by omega, rfl, by have e : rangeV (d.take 0) f t = [] := (by simp [rangeV]); rw [e]; exact World.ownsRow_nil _ _ _ _, Below.refl _ _⟩
  case round =>
    obtain ⟨k, hq, rfl, hrow, hB⟩ := hrel
    have HQ := Lib.hid hq
    have hkl : k ≤ d.length := by omega
    clear hq
    have hbs := hB.size
    have hrl := rangeV_le (d.take k) f t
    rw [List.length_take, Nat.min_eq_left hkl] at hrl
    by_cases h1 : k < d.length
    · obtain ⟨b, o, rfl, hb, ec⟩ := (hA.grows (Grows.of_below hB)).line k h1
      have hb : InHeap b wr := hb
      by_cases h2 : f ≤ k + 1
      · by_cases h3 : (k : Int) + 1 ≤ t
        · have HR := Lib.hid (rangeV_yes d f t k h1 h2 h3)
          go_wp2_with (at_builtin; refine wpList_append_own _ rfl (.tmp 25) (.tmp 30) 22 rfl w.heap.size 9 i0 (.string ⟨#[]⟩) 1 16 Try.underlying22 hi hz0 hz1 hz2 rfl (by decide) _ _ _ rfl (hrow.alloc _) ⟨wr.heap.size, 0, none⟩ 1 1 [.string (tx d[k])] rfl rfl (cell_one_new _ _ _) (by simp [Value.oneCell']) (by unfold maxLen; omega) (by omega) (by simp; omega) ?_; intro v' w1 hown' hgrow _; have hb1 := own_below hB hrow hgrow; clear hgrow)
          go_roundg (gk - 1)
          case measure => have := HQ.out; omega
          case rel => exact ⟨k + 1, by have := HQ.out; omega, by go_num, by rw [HR.out, List.length_append, ← lv_snoc]; exact hown', hb1⟩
        · have HR := Lib.hid (rangeV_no d f t k h1 (by omega))
          go_wp2_with fail
          go_roundg (gk - 1)
          case measure => have := HQ.out; omega
          case rel => exact ⟨k + 1, by have := HQ.out; omega, by go_num, by rw [HR.out]; exact hrow, hB⟩
      · have HR := Lib.hid (rangeV_no d f t k h1 (by omega))
        go_wp2_with fail
        go_roundg (gk - 1)
        case measure => have := HQ.out; omega
        case rel => exact ⟨k + 1, by have := HQ.out; omega, by go_num, by rw [HR.out]; exact hrow, hB⟩
    · have hk : d.take k = d := List.take_of_length_le (by omega)
      rw [hk] at hrow
      clear hk
      go_wp2_with fail
      go_ret
      exact ⟨_, rfl, hrow, Grows.of_below hB⟩

/-- What Splice answers: nothing and an error, or new memory. -/
def SplPost (x : List (List UInt8) × Int) (w : World) (e : Ending) (w' : World) : Prop := ∃ v, e = .returned (.tuple #[v, .int .i64 x.2]) ∧ w'.ownsRow w.heap.size 9 1 v x.1.length (lv x.1) ∧ Grows w w'

end Go.Proofs.Ytblcggmbaofflaa
