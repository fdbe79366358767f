/-
  Templates: the document's Check, Most, stretch and Expand, walked.
-/
import Derived.Test.YtdgahppgpldnpaaTplExp
namespace Go.Proofs.Ytdgahppgpldnpaa
open Go.RowKit

attribute [local go_sem] tx_bt tx_from
section
variable (s : List UInt8) (i : Nat)
theorem drop_bt (h : i < s.length) : s.drop i = s[i] :: s.drop (i + 1) ∧ bt s i = s[i].toNat := ⟨List.drop_eq_getElem_cons h, bt_get s i h⟩
theorem chk_step (h : i < s.length) (hc : bt s i ≠ 92) : chkB (s.drop i) = chkB (s.drop (i + 1)) := by
  obtain ⟨h1, h2⟩ := drop_bt s i h
  rw [h1]
  rw [h2] at hc
  cases s.drop (i + 1) with
  | nil => simp [chkB, hc]
  | cons d t => conv => lhs; unfold chkB; rw [if_neg hc]
theorem chk_slash (h : i + 1 < s.length) (hc : bt s i = 92) : chkB (s.drop i) = chkB (s.drop (i + 2)) := by
  obtain ⟨h1, h2⟩ := drop_bt s i (by omega)
  obtain ⟨h3, _⟩ := drop_bt s (i + 1) h
  rw [h1, h3]
  rw [h2] at hc
  conv => lhs; unfold chkB; rw [if_pos hc]
theorem chk_end (h : i + 1 = s.length) (hc : bt s i = 92) : chkB (s.drop i) = false := by
  obtain ⟨h1, h2⟩ := drop_bt s i (by omega)
  rw [h1, List.drop_eq_nil_of_le (by omega)]
  rw [h2] at hc
  simp [chkB, hc]
theorem most_step (h : i < s.length) (hc : bt s i ≠ 92) : mostB (s.drop i) = mostB (s.drop (i + 1)) := by
  obtain ⟨h1, h2⟩ := drop_bt s i h
  rw [h1]
  rw [h2] at hc
  cases s.drop (i + 1) with
  | nil => simp [mostB]
  | cons d t => conv => lhs; unfold mostB; rw [if_neg hc]
theorem most_slash (h : i + 1 < s.length) (hc : bt s i = 92) : mostB (s.drop i) = max (if 49 ≤ bt s (i + 1) ∧ bt s (i + 1) ≤ 57 then bt s (i + 1) - 48 else 0) (mostB (s.drop (i + 2))) := by
  obtain ⟨h1, h2⟩ := drop_bt s i (by omega)
  obtain ⟨h3, h4⟩ := drop_bt s (i + 1) h
  rw [h1, h3, h4]
  rw [h2] at hc
  conv => lhs; unfold mostB; rw [if_pos hc]
theorem most_small (h : s.length ≤ i + 1) : mostB (s.drop i) = 0 := by
  have hl : (s.drop i).length ≤ 1 := by simp; omega
  match s.drop i, hl with
  | [], _ => rfl
  | [_], _ => rfl
theorem exp_amp (g : Nat → List UInt8) (h : i < s.length) (hc : bt s i = 38) : expB g (s.drop i) = g 0 ++ expB g (s.drop (i + 1)) := by
  obtain ⟨h1, h2⟩ := drop_bt s i h
  rw [h1]
  rw [h2] at hc
  cases s.drop (i + 1) with
  | nil => simp [expB, hc]
  | cons d t => conv => lhs; unfold expB; rw [if_pos hc]
theorem exp_plain (g : Nat → List UInt8) (h : i < s.length) (hc : bt s i ≠ 38) (hd : bt s i ≠ 92 ∨ i + 1 = s.length) : expB g (s.drop i) = s[i] :: expB g (s.drop (i + 1)) := by
  obtain ⟨h1, h2⟩ := drop_bt s i h
  rw [h1]
  rw [h2] at hc hd
  by_cases he : i + 1 = s.length
  · rw [List.drop_eq_nil_of_le (by omega)]; simp [expB, hc]
  · have hd : s[i].toNat ≠ 92 := by omega
    cases s.drop (i + 1) with
    | nil => simp [expB, hc]
    | cons d t => conv => lhs; unfold expB; rw [if_neg hc, if_neg hd]
theorem exp_slash (g : Nat → List UInt8) (h : i + 1 < s.length) (hc : bt s i = 92) : expB g (s.drop i) = toldV g (behindV s[i + 1]) ++ expB g (s.drop (i + 2)) := by
  obtain ⟨h1, h2⟩ := drop_bt s i (by omega)
  obtain ⟨h3, h4⟩ := drop_bt s (i + 1) h
  rw [h1, h3]
  rw [h2] at hc
  conv => lhs; unfold expB; rw [if_neg (by omega), if_pos hc]
end
def chkE (s : List UInt8) : Int := if chkB s = true then 0 else 110
set_option maxRecDepth 100000 in
set_option maxHeartbeats 2000000 in
theorem refCheck_any (s : List UInt8) (w : World) (hl : s.length ≤ 1000000) : Calls Try.prog 10 #[.string (tx s)] w fun e w' => e = .returned (.int .i64 (chkE s)) ∧ w = w' := by
  go_enter Try.func10, Try.ntmps10
  go_wp2_with fail
  go_loopg [3] s.length (fun q v3 wr => ∃ i : Nat, q + i = s.length ∧ v3 = .int .i64 i ∧ chkB (s.drop i) = chkB s ∧ w = wr)
  case atStart => exact ⟨0, by omega, rfl, rfl, rfl⟩
  case round =>
    obtain ⟨i, hq, rfl, hc, rfl⟩ := hrel
    have HQ := Lib.hid hq
    have HC := Lib.hid hc
    have hib : i ≤ 1000000 := by omega
    clear hq hc
    have i0 : (0 : Int) ≤ (i : Int) := by omega
    by_cases h1 : i < s.length
    · have i1 : (i : Int) < (s.length : Int) := by omega
      by_cases h2 : bt s i = 92
      · have e1 : ((bt s i : Int) == 92) = true := by rw [h2]; rfl
        by_cases h3 : i + 1 = s.length
        · have e2 : ((i : Int) + 1 == (s.length : Int)) = true := by simp; omega
          have HV := Lib.hid (HC.out.symm.trans (chk_end s i h3 h2))
          clear h2 h3
          go_wp2_with fail
          go_ret
          exact ⟨by unfold chkE; rw [HV.out]; rfl, rfl⟩
        · have e2 : ((i : Int) + 1 == (s.length : Int)) = false := by rw [beq_eq_false_iff_ne]; omega
          have HV := Lib.hid ((chk_slash s i (by omega) h2).symm.trans HC.out)
          clear h2
          go_wp2_with fail
          go_roundg (gk - 2)
          case measure => have := HQ.out; omega
          case rel => exact ⟨i + 2, by have := HQ.out; omega, by go_num, HV.out, rfl⟩
      · have e1 : ((bt s i : Int) == 92) = false := by rw [beq_eq_false_iff_ne]; omega
        have HV := Lib.hid ((chk_step s i h1 h2).symm.trans HC.out)
        clear h2
        go_wp2_with fail
        go_roundg (gk - 1)
        case measure => have := HQ.out; omega
        case rel => exact ⟨i + 1, by have := HQ.out; omega, by go_num, HV.out, rfl⟩
    · have i1 : ¬(i : Int) < (s.length : Int) := by omega
      have hd : s.drop i = [] := List.drop_eq_nil_of_le (by omega)
      have HV := Lib.hid (HC.out.symm.trans (by rw [hd]; rfl : chkB (s.drop i) = true))
      clear hd
      go_wp2_with fail
      go_ret
      exact ⟨by unfold chkE; rw [HV.out]; rfl, rfl⟩
theorem mostB_small (s : List UInt8) : mostB s ≤ 9 := by
  induction h : s.length using Nat.strongRecOn generalizing s with
  | _ n ih =>
    match s, h with
    | [], _ => simp [mostB]
    | [_], _ => simp [mostB]
    | c :: d :: t, h =>
      unfold mostB
      split
      · have := ih t.length (by simp at h; omega) t rfl
        split <;> omega
      · exact ih (d :: t).length (by simp at h ⊢; omega) (d :: t) rfl
set_option maxRecDepth 100000 in
set_option maxHeartbeats 2000000 in
theorem refMost_any (s : List UInt8) (w : World) (hl : s.length ≤ 1000000) : Calls Try.prog 14 #[.string (tx s)] w fun e w' => e = .returned (.int .i64 (mostB s)) ∧ w = w' := by
  go_enter Try.func14, Try.ntmps14
  go_wp2_with fail
  go_loopg [3, 4] s.length (fun q v3 v4 wr => ∃ i m : Nat, q + i = s.length ∧ v4 = .int .i64 i ∧ v3 = .int .i64 m ∧ m ≤ 9 ∧ max m (mostB (s.drop i)) = mostB s ∧ w = wr)
  case atStart => exact ⟨0, 0, by omega, rfl, rfl, by omega, by simp, rfl⟩
  case round =>
    obtain ⟨i, m, hq, rfl, rfl, hm, hc, rfl⟩ := hrel
    have HQ := Lib.hid hq
    have HC := Lib.hid hc
    have hib : i ≤ 1000000 := by omega
    clear hq hc
    have i0 : (0 : Int) ≤ (i : Int) := by omega
    by_cases h1 : i + 1 < s.length
    · have i1 : (i : Int) + 1 < (s.length : Int) := by omega
      have i2 : (i : Int) < (s.length : Int) := by omega
      have hib2 : i + 1 < s.length := h1
      have hib3 : i < s.length := by omega
      by_cases h2 : bt s i = 92
      · have e1 : ((bt s i : Int) == 92) = true := by rw [h2]; rfl
        have hb := bt_lt s (i + 1)
        have hms := most_slash s i h1 h2
        have h256 : (bt s (i + 1) : Int) < 256 := by omega
        by_cases h3 : 49 ≤ bt s (i + 1) ∧ bt s (i + 1) ≤ 57
        · rw [if_pos h3] at hms
          obtain ⟨h4, h5⟩ := h3
          have HV := Lib.hid hms
          clear hms h2
          have e2 : (49 : Int) ≤ (bt s (i + 1) : Int) := by omega
          have e3 : (bt s (i + 1) : Int) ≤ 57 := by omega
          go_wp2_with fail
          go_roundg (gk - 2)
          case measure => have := HQ.out; omega
          case rel => exact ⟨i + 2, max m (bt s (i + 1) - 48), by have := HQ.out; omega, by go_num, by congr 1; omega, by omega, by have := HC.out; rw [HV.out] at this; omega, rfl⟩
        · rw [if_neg h3] at hms
          have HV := Lib.hid hms
          clear hms h2
          by_cases h4 : 49 ≤ bt s (i + 1)
          · have e3 : ¬(bt s (i + 1) : Int) ≤ 57 := by omega
            clear h3
            go_wp2_with fail
            go_roundg (gk - 2)
            case measure => have := HQ.out; omega
            case rel => exact ⟨i + 2, m, by have := HQ.out; omega, by go_num, rfl, by omega, by have := HC.out; rw [HV.out] at this; omega, rfl⟩
          · have e3 : ¬(49 : Int) ≤ (bt s (i + 1) : Int) := by omega
            clear h3
            go_wp2_with fail
            go_roundg (gk - 2)
            case measure => have := HQ.out; omega
            case rel => exact ⟨i + 2, m, by have := HQ.out; omega, by go_num, rfl, by omega, by have := HC.out; rw [HV.out] at this; omega, rfl⟩
      · have e1 : ((bt s i : Int) == 92) = false := by rw [beq_eq_false_iff_ne]; omega
        have HV := Lib.hid (most_step s i hib3 h2)
        clear h2
        go_wp2_with fail
        go_roundg (gk - 1)
        case measure => have := HQ.out; omega
        case rel => exact ⟨i + 1, m, by have := HQ.out; omega, by go_num, rfl, by omega, by have := HC.out; rw [HV.out] at this; omega, rfl⟩
    · have i1 : ¬(i : Int) + 1 < (s.length : Int) := by omega
      have HV := Lib.hid (most_small s i (by omega))
      go_wp2_with fail
      go_ret
      exact ⟨by have := HC.out; rw [HV.out] at this; rw [← this]; simp, rfl⟩
set_option maxRecDepth 100000 in
set_option maxHeartbeats 2000000 in
theorem stretch_any (n : Nat) (s : List UInt8) (ms : List Int) (w : World) (hn : n ≤ 9) (hm : ms.length = 20) (hs : s.length ≤ 1000000) : Calls Try.prog 21 #[.string (tx s), .agg (nums ms), .int .i64 n] w fun e w' => e = .returned (.string (tx (strV s ms n))) ∧ Grows w w' := by
  have hsz := nums_size ms
  rw [hm] at hsz
  have h0 := nums_get ms (n * 2) (by omega)
  have h1 := nums_get ms (n * 2 + 1) (by omega)
  have n0 : (0 : Int) ≤ (n : Int) := by omega
  have n1 : (n : Int) < 10 := by omega
  have hV : strV s ms n = if 0 ≤ sp ms (n * 2) ∧ sp ms (n * 2) ≤ sp ms (n * 2 + 1) ∧ sp ms (n * 2 + 1) ≤ s.length then (s.drop (sp ms (n * 2)).toNat).take ((sp ms (n * 2 + 1)).toNat - (sp ms (n * 2)).toNat) else [] := rfl
  have HV := Lib.hid hV
  have HM := Lib.hid hm
  clear hV hm
  generalize sp ms (n * 2) = a at *
  generalize sp ms (n * 2 + 1) = b at *
  go_enter Try.func21, Try.ntmps21
  go_wp2_with fail
  go_quiet (fail)
  by_cases ha : a < 0
  · have HZ := Lib.hid (HV.out.trans (if_neg (by omega)))
    go_wp2_with fail
    go_ret
    exact ⟨by rw [HZ.out]; rfl, ((Grows.refl _).alloc _).drewN _⟩
  by_cases hb : b < a
  · have HZ := Lib.hid (HV.out.trans (if_neg (by omega)))
    go_wp2_with fail
    go_ret
    exact ⟨by rw [HZ.out]; rfl, ((Grows.refl _).alloc _).drewN _⟩
  by_cases hc : (s.length : Int) < b
  · have HZ := Lib.hid (HV.out.trans (if_neg (by omega)))
    go_wp2_with fail
    go_ret
    exact ⟨by rw [HZ.out]; rfl, ((Grows.refl _).alloc _).drewN _⟩
  have HZ := Lib.hid (HV.out.trans (if_pos (by omega)))
  clear h0 h1 HV
  obtain ⟨k, rfl⟩ : ∃ k : Nat, a = k := ⟨a.toNat, by omega⟩
  obtain ⟨m, rfl⟩ : ∃ m : Nat, b = m := ⟨b.toNat, by omega⟩
  have hx := tx_mid s k m
  have k1 : k ≤ m := by omega
  have k2 : m ≤ s.length := by omega
  go_wp2_with fail
  go_ret
  exact ⟨by rw [HZ.out]; rfl, ((Grows.refl _).alloc _).drewN _⟩
end Go.Proofs.Ytdgahppgpldnpaa
