/-
  inkhornref01.Whole and Check, walked: for every seat whose code calls them.
-/
import Derived.Test.YtlhdbaaokgdabaaCheck
namespace Go.Proofs.Ytlhdbaaokgdabaa
open Go.RowKit

/-! ### the document's -/
set_option maxHeartbeats 400000 in
theorem whole_any (s : List UInt8) (w : World) (hs : s.length ≤ 9223372036854775807) : Calls Try.prog 39 #[.string (tx s)] w fun e w' => e = .returned (.bool (!hasEnd s)) ∧ w = w' := by
  have hz : (tx s).size ≤ 9223372036854775807 := by simpa using hs
  go_enter Try.func39, Try.ntmps39
  go_wp2_with fail
  go_loopg [3] s.length (fun q i wr => ∃ k : Nat, q + k = s.length ∧ i = .int .i64 k ∧ wr = w ∧ 10 ∉ s.take k)
  case atStart => exact ⟨0, by omega, rfl, rfl, by simp⟩
  case round =>
    obtain ⟨k, hq, rfl, rfl, hno⟩ := hrel
    have HQ := Lib.hid hq
    have HN := Lib.hid hno
    have hkl : k ≤ s.length := by omega
    clear hq hno
    by_cases h1 : k < s.length
    · have h1' : k < (tx s).size := by simpa using h1
      by_cases h2 : s[k] = 10
      · have h2' : (((tx s)[k].toNat : Int) == 10) = true := by rw [show (tx s)[k] = 10 from (tx_get s k h1').trans h2]; rfl
        have HV : Hid ((!hasEnd s) = false) := Lib.hid (by simp [hasEnd]; rw [← h2]; exact List.getElem_mem _)
        clear h2
        go_wp2_with fail
        go_ret
        exact ⟨by rw [HV.out]; rfl, rfl⟩
      · have h2' : (((tx s)[k].toNat : Int) == 10) = false := by
          rw [tx_get, beq_eq_false_iff_ne]
          intro e
          exact h2 (UInt8.toNat.inj (by have : (10 : UInt8).toNat = 10 := rfl; omega))
        have HN2 : Hid (10 ∉ s.take (k + 1)) := Lib.hid (by
          rw [List.take_add_one, List.getElem?_eq_getElem h1]
          simp only [Option.toList, List.mem_append, List.mem_singleton, not_or]
          exact ⟨HN.out, Ne.symm h2⟩)
        clear h2
        go_wp2_with fail
        go_roundg (gk - 1)
        case measure => have := HQ.out; omega
        case rel => exact ⟨k + 1, by have := HQ.out; omega, by go_num, rfl, HN2.out⟩
    · have HV : Hid ((!hasEnd s) = true) := Lib.hid (by
        have := HN.out
        rw [List.take_of_length_le (by omega)] at this
        simpa [hasEnd] using this)
      go_wp2_with fail
      go_ret
      exact ⟨by rw [HV.out]; rfl, rfl⟩
theorem any_take_succ (d : List (List UInt8)) (p : List UInt8 → Bool) (k : Nat) (h : k < d.length) : (d.take (k + 1)).any p = ((d.take k).any p || p d[k]) := by
  rw [List.take_add_one, List.getElem?_eq_getElem h, List.any_append]; simp
set_option maxHeartbeats 1000000 in
theorem refCheck_any (A : Option Addr) (cap : Nat) (d : List (List UInt8)) (w : World) (hA : Rd w 1 A d.length (lv d)) (hd : d.length ≤ 9223372036854775807) (hl : ∀ s ∈ d, s.length ≤ 9223372036854775807) :
    Calls Try.prog 31 #[.slice A d.length cap] w fun e w' => e = .returned (.int .i64 (lcheckV d)) ∧ w = w' := by
  have HL := Lib.hid hl
  clear hl
  obtain ⟨lo, hlo⟩ : ∃ lo : Bool, lo = decide (2000 < d.length) := ⟨_, rfl⟩
  have HLO := Lib.hid hlo
  go_enter Try.func31, Try.ntmps31
  go_wp2_with fail
  go_loopg [3, 4] d.length (fun q v i wr => ∃ k : Nat, q + k = d.length ∧ i = .int .i64 k ∧ v = .bool (lo || (d.take k).any tooLong) ∧ wr = w ∧ (d.take k).any hasEnd = false)
  case atStart => exact ⟨0, by omega, rfl, by rw [HLO.out]; simp; omega, rfl, rfl⟩
  case round =>
    obtain ⟨k, hq, rfl, rfl, rfl, hno⟩ := hrel
    have HQ := Lib.hid hq
    have HN := Lib.hid hno
    have hkl : k ≤ d.length := by omega
    clear hq hno
    by_cases h1 : k < d.length
    · obtain ⟨b, o, rfl, hb, ec⟩ := hA.line k h1
      have hlk := HL.out d[k] (List.getElem_mem h1)
      have hzk : (tx d[k]).size ≤ 9223372036854775807 := by simpa using hlk
      cases h2 : hasEnd d[k] with
      | true =>
        have HV : Hid (lcheckV d = 2) := Lib.hid (by
          have : d.any hasEnd = true := List.any_eq_true.2 ⟨_, List.getElem_mem h1, h2⟩
          simp [lcheckV, this])
        have H2 := Lib.hid h2
        clear h2
        go_wp2_with fail
        (with_reducible refine (whole_any d[k] _ hlk).mono ?_)
        rw [H2.out]
        rintro e w' ⟨rfl, rfl⟩
        go_wp2_with fail
        go_ret
        exact ⟨by rw [HV.out]; rfl, rfl⟩
      | false =>
        have HN2 : Hid ((d.take (k + 1)).any hasEnd = false) := Lib.hid (by rw [any_take_succ d hasEnd k h1, HN.out, h2]; rfl)
        have HT := Lib.hid (any_take_succ d tooLong k h1)
        have H2 := Lib.hid h2
        clear h2
        generalize hgen : (lo || (d.take k).any tooLong) = bo
        have HG := Lib.hid hgen
        clear hgen
        have H3 : Hid (tooLong d[k] = decide (1000 < d[k].length)) := Lib.hid rfl
        cases bo
        all_goals
          go_wp2_with fail
          (with_reducible refine (whole_any d[k] _ hlk).mono ?_)
          rw [H2.out]
          rintro e w' ⟨rfl, rfl⟩
          go_wp2_with fail
          go_roundg (gk - 1)
          case measure => have := HQ.out; omega
          case rel => exact ⟨k + 1, by have := HQ.out; omega, by go_num, by rw [HT.out, ← Bool.or_assoc, HG.out, H3.out]; first | rfl | (simp; omega), rfl, HN2.out⟩
    · have hk : d.take k = d := List.take_of_length_le (by omega)
      have HN2 : Hid (d.any hasEnd = false) := Lib.hid (by have := HN.out; rwa [hk] at this)
      rw [hk]
      clear hk
      cases hb : (lo || d.any tooLong) with
      | true =>
        have HV : Hid (lcheckV d = 3) := Lib.hid (by rw [lcheckV, HN2.out, ← HLO.out, hb]; rfl)
        clear hb
        go_wp2_with fail
        go_ret
        exact ⟨by rw [HV.out]; rfl, rfl⟩
      | false =>
        have HV : Hid (lcheckV d = 0) := Lib.hid (by rw [lcheckV, HN2.out, ← HLO.out, hb]; rfl)
        clear hb
        go_wp2_with fail
        go_ret
        exact ⟨by rw [HV.out]; rfl, rfl⟩
end Go.Proofs.Ytlhdbaaokgdabaa
