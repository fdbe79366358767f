/-
  Templates: the document's Expand, walked.
-/
import Derived.Test.YtdgahppgpldnpaaTplRef
namespace Go.Proofs.Ytdgahppgpldnpaa
open Go.RowKit

attribute [local go_sem] tx_bt tx_from
theorem told_len (s : List UInt8) (ms : List Int) (c : UInt8) (hs : s.length ≤ 1000000) : (toldV (strV s ms) (behindV c)).length ≤ 1000000 := by
  unfold behindV
  split
  · exact Nat.le_trans (strV_len s ms _) hs
  · split <;> simp [toldV]
theorem tx_one (t : List UInt8) (i : Nat) (h : i < t.length) : (tx t).extract i (i + 1) = tx [t[i]] := by
  rw [tx_mid, show i + 1 - i = 1 by omega, List.drop_eq_getElem_cons h]; rfl
theorem stretch_zero (s : List UInt8) (ms : List Int) (w : World) (hm : ms.length = 20) (hs : s.length ≤ 1000000) : Calls Try.prog 21 #[.string (tx s), .agg (nums ms), .int .i64 0] w fun e w' => e = .returned (.string (tx (strV s ms 0))) ∧ Grows w w' :=
  stretch_any 0 s ms w (by omega) hm hs
set_option maxRecDepth 100000 in
set_option maxHeartbeats 4000000 in
theorem refExpand_any (t s : List UInt8) (ms : List Int) (w : World) (ht : t.length ≤ 1000000) (hm : ms.length = 20) (hs : s.length ≤ 1000000) : Calls Try.prog 15 #[.string (tx t), .string (tx s), .agg (nums ms)] w fun e w' => e = .returned (.string (tx (expB (strV s ms) t))) ∧ Grows w w' := by
  have hsz := nums_size ms
  rw [hm] at hsz
  have h1c := nums_one ms
  have HM := Lib.hid hm
  clear hm
  go_enter Try.func15, Try.ntmps15
  go_wp2_with fail
  go_loopg [7, 8, 9] t.length (fun q v7 v8 _ wr => ∃ (i : Nat) (out : List UInt8) (m : More), q + i = t.length ∧ v7 = .string (tx out) ∧ v8 = .int .i64 i ∧ out.length ≤ i * 1000000 ∧ out ++ expB (strV s ms) (t.drop i) = expB (strV s ms) t ∧ wr = more (w.alloc (.cells (nums ms) 23)) m)
  case atStart => exact ⟨0, [], _, by omega, rfl, rfl, by simp, rfl, more_self _⟩
  case round =>
    obtain ⟨i, out, m, hq, rfl, rfl, hol, hc, rfl⟩ := hrel
    have HQ := Lib.hid hq
    have HC := Lib.hid hc
    have hib : i ≤ 1000000 := by omega
    have hoz : out.length ≤ 1000000000000 := by have := Nat.mul_le_mul_right 1000000 hib; omega
    clear hq hc
    have i0 : (0 : Int) ≤ (i : Int) := by omega
    by_cases h1 : i < t.length
    · have i1 : (i : Int) < (t.length : Int) := by omega
      have hb := bt_lt t i
      have hone := tx_one t i h1
      by_cases h2 : bt t i = 38
      · have e1 : ((bt t i : Int) == 38) = true := by rw [h2]; rfl
        have HE := Lib.hid (exp_amp t i (strV s ms) h1 h2)
        have hsl := strV_len s ms 0
        have hcat : tx out ++ tx (strV s ms 0) = tx (out ++ strV s ms 0) := tx_append _ _
        clear h2
        go_wp2_with fail
        (with_reducible refine (stretch_zero s ms _ HM.out hs).mono ?_)
        rintro e w1 ⟨rfl, m1, rfl⟩
        go_wp2_with fail
        go_roundg (gk - 1)
        case measure => have := HQ.out; omega
        case rel => exact ⟨i + 1, out ++ strV s ms 0, _, by have := HQ.out; omega, rfl, by go_num, by rw [List.length_append]; omega, by rw [List.append_assoc, ← HE.out]; exact HC.out, more_more _ _ _⟩
      · have e1 : ((bt t i : Int) == 38) = false := by rw [beq_eq_false_iff_ne]; omega
        by_cases h3 : bt t i = 92
        · have e2 : ((bt t i : Int) != 92) = false := by rw [h3]; rfl
          by_cases h4 : i + 1 = t.length
          · have e3 : ((i : Int) + 1 == (t.length : Int)) = true := by simp; omega
            have HE := Lib.hid (exp_plain t i (strV s ms) h1 h2 (.inr h4))
            have hcat : tx out ++ tx [t[i]] = tx (out ++ [t[i]]) := tx_append _ _
            clear h2 h3 h4
            go_wp2_with fail
            go_roundg (gk - 1)
            case measure => have := HQ.out; omega
            case rel => exact ⟨i + 1, out ++ [t[i]], _, by have := HQ.out; omega, rfl, by go_num, by rw [List.length_append, List.length_singleton]; omega, by rw [List.append_assoc, ← HC.out, HE.out]; rfl, rfl⟩
          · have e3 : ((i : Int) + 1 == (t.length : Int)) = false := by rw [beq_eq_false_iff_ne]; omega
            have h5 : i + 1 < t.length := by omega
            have hb2 := bt_lt t (i + 1)
            have HE := Lib.hid (exp_slash t i (strV s ms) h5 h3)
            have hTL := told_len s ms t[i + 1] hs
            have hbn : bt t (i + 1) = t[i + 1].toNat := bt_get t (i + 1) h5
            have hone2 := tx_one t (i + 1) h5
            clear h2 h3 h4 hone
            by_cases h6 : 49 ≤ bt t (i + 1) ∧ bt t (i + 1) ≤ 57
            · have hV : behindV t[i + 1] = .grp (bt t (i + 1) - 48) := by unfold behindV; rw [if_pos (by omega), hbn]
              obtain ⟨h7, h8⟩ := h6
              have e4 : (49 : Int) ≤ (bt t (i + 1) : Int) := by omega
              have e5 : (bt t (i + 1) : Int) ≤ 57 := by omega
              have hk : (bt t (i + 1) : Int) - 48 = ((bt t (i + 1) - 48 : Nat) : Int) := by omega
              rw [hV] at HE hTL
              simp only [toldV] at HE hTL
              have hcat : tx out ++ tx (strV s ms (bt t (i + 1) - 48)) = tx (out ++ strV s ms (bt t (i + 1) - 48)) := tx_append _ _
              have HK := Lib.hid hk
              have HSTR := stretch_any (bt t (i + 1) - 48) s ms
              rw [← HK.out] at HSTR
              have HSTR := Lib.hid HSTR
              clear hV hbn hone2 hk
              go_wp2_with fail
              (with_reducible refine (HSTR.out _ (by omega) HM.out hs).mono ?_)
              rintro e w1 ⟨rfl, m1, rfl⟩
              go_wp2_with fail
              go_roundg (gk - 2)
              case measure => have := HQ.out; omega
              case rel => exact ⟨i + 2, out ++ strV s ms (bt t (i + 1) - 48), _, by have := HQ.out; omega, rfl, by go_num, by rw [List.length_append]; omega, by rw [List.append_assoc, ← HE.out]; exact HC.out, more_more _ _ _⟩
            · by_cases h7 : bt t (i + 1) = 110
              · have hV : behindV t[i + 1] = .text [10] := by unfold behindV; rw [if_neg (by omega), if_pos (by omega)]
                have e4 : ((bt t (i + 1) : Int) == 110) = true := by rw [h7]; rfl
                have e5 : ¬(bt t (i + 1) : Int) ≤ 57 := by omega
                have e6 : (49 : Int) ≤ (bt t (i + 1) : Int) := by omega
                rw [hV] at HE
                have hcat : tx out ++ ⟨#[10]⟩ = tx (out ++ [10]) := tx_append _ [10]
                clear hV h6 h7 hbn hone2
                go_wp2_with fail
                go_roundg (gk - 2)
                case measure => have := HQ.out; omega
                case rel => exact ⟨i + 2, out ++ [10], _, by have := HQ.out; omega, rfl, by go_num, by rw [List.length_append, List.length_singleton]; omega, by rw [List.append_assoc, ← HC.out, HE.out]; rfl, rfl⟩
              · have hV : behindV t[i + 1] = .text [t[i + 1]] := by unfold behindV; rw [if_neg (by omega), if_neg (by omega)]
                have e4 : ((bt t (i + 1) : Int) == 110) = false := by rw [beq_eq_false_iff_ne]; omega
                rw [hV] at HE
                have hcat : tx out ++ tx [t[i + 1]] = tx (out ++ [t[i + 1]]) := tx_append _ _
                by_cases h8 : 49 ≤ bt t (i + 1)
                · have e5 : ¬(bt t (i + 1) : Int) ≤ 57 := by omega
                  have e6 : (49 : Int) ≤ (bt t (i + 1) : Int) := by omega
                  clear hV h6 h7 hbn
                  go_wp2_with fail
                  go_roundg (gk - 2)
                  case measure => have := HQ.out; omega
                  case rel => exact ⟨i + 2, out ++ [t[i + 1]], _, by have := HQ.out; omega, rfl, by go_num, by rw [List.length_append, List.length_singleton]; omega, by rw [List.append_assoc, ← HC.out, HE.out]; rfl, rfl⟩
                · have e6 : ¬(49 : Int) ≤ (bt t (i + 1) : Int) := by omega
                  clear hV h6 h7 hbn
                  go_wp2_with fail
                  go_roundg (gk - 2)
                  case measure => have := HQ.out; omega
                  case rel => exact ⟨i + 2, out ++ [t[i + 1]], _, by have := HQ.out; omega, rfl, by go_num, by rw [List.length_append, List.length_singleton]; omega, by rw [List.append_assoc, ← HC.out, HE.out]; rfl, rfl⟩
        · have e2 : ((bt t i : Int) != 92) = true := by simp; omega
          have HE := Lib.hid (exp_plain t i (strV s ms) h1 h2 (.inl h3))
          have hcat : tx out ++ tx [t[i]] = tx (out ++ [t[i]]) := tx_append _ _
          clear h2 h3
          go_wp2_with fail
          go_roundg (gk - 1)
          case measure => have := HQ.out; omega
          case rel => exact ⟨i + 1, out ++ [t[i]], _, by have := HQ.out; omega, rfl, by go_num, by rw [List.length_append, List.length_singleton]; omega, by rw [List.append_assoc, ← HC.out, HE.out]; rfl, rfl⟩
    · have i1 : ¬(i : Int) < (t.length : Int) := by omega
      have hd : t.drop i = [] := List.drop_eq_nil_of_le (by omega)
      have HD := Lib.hid hd
      clear hd
      go_wp2_with fail
      go_ret
      exact ⟨by have := HC.out; rw [HD.out] at this; rw [← this]; simp [expB], ((Grows.refl _).alloc _).more _⟩
end Go.Proofs.Ytdgahppgpldnpaa
