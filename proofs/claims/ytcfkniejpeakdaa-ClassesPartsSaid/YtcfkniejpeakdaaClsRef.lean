/-
  Classes: the document's special and Class, walked.
-/
import Derived.Test.YtcfkniejpeakdaaClsPart
namespace Go.Proofs.Ytcfkniejpeakdaa
open Go.RowKit

attribute [local go_sem] tx_bt tx_from
attribute [local go_sem ↓] zero22
theorem kind_at (s : List UInt8) (k : Nat) : kindN (s.drop k) = if k + 1 < s.length ∧ bt s k = 91 ∧ (bt s (k + 1) = 58 ∨ bt s (k + 1) = 46 ∨ bt s (k + 1) = 61) then bt s (k + 1) else 0 := by
  unfold kindN
  rw [bt_drop, bt_drop, Nat.add_zero]
  have : (1 < (s.drop k).length) ↔ (k + 1 < s.length) := by simp; omega
  simp only [this]
set_option maxHeartbeats 1000000 in
theorem special_any (s : List UInt8) (k : Nat) (w : World) (hl : s.length ≤ 4000000000) (hk : k ≤ 4000000000) : Calls Try.prog 30 #[.string (tx s), .int .i64 k] w fun e w' => e = .returned (.bool (kindN (s.drop k) != 0)) ∧ w = w' := by
  have h0 : (0 : Int) ≤ k := by omega
  have h0b : (0 : Int) ≤ (k : Int) + 1 := by omega
  have h0c : ((k : Int) + 1).toNat = k + 1 := by omega
  go_enter Try.func30, Try.ntmps30
  by_cases h1 : k + 1 < s.length
  · have c1 : (k : Int) + 1 < (s.length : Int) := by omega
    have c1b : (k : Int) < (s.length : Int) := by omega
    by_cases h2 : bt s k = 91
    · have c2 : ((bt s k : Int) == 91) = true := ieq_true (by omega)
      have hK : (kindN (s.drop k) != 0) = decide (bt s (k + 1) = 58 ∨ bt s (k + 1) = 46 ∨ bt s (k + 1) = 61) := by
        rw [kind_at, Bool.eq_iff_iff]
        simp only [h1, h2, true_and, bne_iff_ne, ne_eq, decide_eq_true_eq]
        split <;> omega
      have HK := Lib.hid hK
      clear hK
      by_cases h3 : bt s (k + 1) = 58
      · have c3 : ((bt s (k + 1) : Int) == 58) = true := ieq_true (by omega)
        go_wp2_with fail
        go_ret
        exact ⟨by rw [HK.out]; simp [h3], rfl⟩
      · have c3 : ((bt s (k + 1) : Int) == 58) = false := ieq_false (by omega)
        by_cases h4 : bt s (k + 1) = 46
        · have c4 : ((bt s (k + 1) : Int) == 46) = true := ieq_true (by omega)
          go_wp2_with fail
          go_ret
          exact ⟨by rw [HK.out]; simp [h4], rfl⟩
        · have c4 : ((bt s (k + 1) : Int) == 46) = false := ieq_false (by omega)
          by_cases h5 : bt s (k + 1) = 61
          · have c5 : ((bt s (k + 1) : Int) == 61) = true := ieq_true (by omega)
            go_wp2_with fail
            go_ret
            exact ⟨by rw [HK.out]; simp [h5], rfl⟩
          · have c5 : ((bt s (k + 1) : Int) == 61) = false := ieq_false (by omega)
            go_wp2_with fail
            go_ret
            exact ⟨by rw [HK.out]; simp [h3, h4, h5], rfl⟩
    · have c2 : ((bt s k : Int) == 91) = false := ieq_false (by omega)
      have hK : (kindN (s.drop k) != 0) = false := by
        rw [kind_at, if_neg (fun h => h2 h.2.1)]; rfl
      have HK := Lib.hid hK
      clear hK
      go_wp2_with fail
      go_ret
      exact ⟨by rw [HK.out]; rfl, rfl⟩
  · have c1 : ¬(k : Int) + 1 < (s.length : Int) := by omega
    have hK : (kindN (s.drop k) != 0) = false := by
      rw [kind_at, if_neg (fun h => h1 h.1)]; rfl
    have HK := Lib.hid hK
    clear hK
    go_wp2_with fail
    go_ret
    exact ⟨by rw [HK.out]; rfl, rfl⟩
set_option maxRecDepth 100000 in
set_option maxHeartbeats 2000000 in
theorem refClass_any (k : ByteArray) (w : World) : Calls Try.prog 14 #[.string k] w fun e w' => e = .returned (.tuple #[.agg (SA (classP k)), .bool (clsOf k).isSome]) ∧ Grows w w' := by
  have hin : ∀ c : Nat, inP k c = classP k c := fun c => by unfold inP classP; cases clsOf k <;> rfl
  go_enter Try.func14, Try.ntmps14
  go_wp2_with fail
  (with_reducible refine (in_any k 0 _ (by omega) (by omega)).mono ?_)
  rintro e w1 ⟨rfl, rfl⟩
  go_wp2_with fail
  go_loopg [7] 256 (fun q i wr => ∃ j : Nat, q + j = 256 ∧ i = .int .i64 j ∧ wr = (w.alloc (.cells (SA fun _ => false) 22)).alloc (.cells (SA fun c => decide (c < j) && classP k c) 22))
  case atStart => exact ⟨0, by omega, rfl, by rw [show (SA fun c => decide (c < 0) && classP k c) = SA fun _ => false from SA_ext fun c _ => by simp]⟩
  case round =>
    obtain ⟨j, hq, rfl, rfl⟩ := hrel
    have HQ := Lib.hid hq
    clear hq
    by_cases h1 : j < 256
    · have hcv : IntKind.u8.wrap (j : Int) = j := byte_conv j h1
      have hix : (0 : Int) ≤ (j : Int) := by omega
      have hst : (SA fun c => decide (c < j) && classP k c).setIfInBounds j (.bool (classP k j)) = SA fun c => decide (c < j + 1) && classP k c := by
        rw [set_SA]
        exact SA_ext fun c _ => by
          by_cases h : c = j
          · subst h; simp
          · by_cases h2 : c < j
            · have h3 : c < j + 1 := by omega
              simp [h, h2, h3]
            · have h3 : ¬c < j + 1 := by omega
              simp [h, h2, h3]
      have HST := Lib.hid hst
      clear hst
      go_wp2_with fail
      (with_reducible refine (in_any k j _ (by omega) (by omega)).mono ?_)
      rw [hin]
      rintro e w1 ⟨rfl, rfl⟩
      go_wp2_with fail
      go_roundg (gk - 1)
      case measure => have := HQ.out; omega
      case rel => exact ⟨j + 1, by have := HQ.out; omega, by go_num, by rw [HST.out]⟩
    · have hp : (SA fun c => decide (c < j) && classP k c) = SA (classP k) := SA_ext fun c hc => by
        have h2 : c < j := by omega
        simp [h2]
      have HP := Lib.hid hp
      clear hp
      go_wp2_with fail
      rw [HP.out]
      exact bodyPost_ret (v := .tuple #[.agg (SA (classP k)), .bool (clsOf k).isSome]) (by simp [results, Try.results14, go_sem]) rfl ⟨rfl, ((Grows.refl _).alloc _).alloc _⟩
end Go.Proofs.Ytcfkniejpeakdaa
