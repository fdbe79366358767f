/-
  Templates: the law TemplatesJoin.
-/
import Derived.Test.YtdgahppgpldnpaaTplTell
namespace Go.Proofs.Ytdgahppgpldnpaa
open Go.RowKit

attribute [local go_sem] tx_bt tx_from tx_toList nums_size nums_set zs_length
attribute [local go_sem ↓] zeroS
theorem expB_len (g : Nat → List UInt8) (N : Nat) (hN : 1 ≤ N) (hg : ∀ n, (g n).length ≤ N) (t : List UInt8) : (expB g t).length ≤ t.length * N := by
  induction h : t.length using Nat.strongRecOn generalizing t with
  | _ n ih =>
    match t, h with
    | [], _ => simp [expB]
    | [c], h =>
      subst h
      unfold expB
      split
      · simp; exact hg 0
      · simp; exact hN
    | c :: d :: r, h =>
      subst h
      have i1 := ih (d :: r).length (by simp) (d :: r) rfl
      have i2 := ih r.length (by simp; omega) r rfl
      have hb : (toldV g (behindV d)).length ≤ N := by
        unfold behindV
        split
        · exact hg _
        · split <;> simpa [toldV] using hN
      simp only [List.length_cons, Nat.succ_mul] at i1 i2 ⊢
      unfold expB
      split
      · have := hg 0
        rw [List.length_append]; omega
      · split
        · rw [List.length_append]; omega
        · rw [List.length_cons]; omega
theorem exp_small (s : List UInt8) (ms : List Int) (t : List UInt8) (ht : t.length ≤ 1000) (hs : s.length ≤ 1000) : (expB (strV s ms) t).length ≤ 1001000 := by
  have h := expB_len (strV s ms) 1001 (by omega) (fun n => by have := strV_len s ms n; omega) t
  have := Nat.mul_le_mul_right 1001 ht
  omega
set_option maxRecDepth 100000 in
set_option maxHeartbeats 8000000 in
theorem templatesJoin_law (a b s : List UInt8) (w : World) (ha : a.length ≤ 9223372036854775807) (hb : b.length ≤ 9223372036854775807) (hs : s.length ≤ 9223372036854775807) : Calls Try.prog 5 #[.string (tx a), .string (tx b), .string (tx s)] w fun e w' => e = .returned (.bool true) ∧ Grows w w' := by
  go_enter Try.func5, Try.ntmps5
  by_cases h1 : 1000 < a.length
  · have c1 : (1000 : Int) < (a.length : Int) := by omega
    go_wp2_with fail
    go_ret
    exact ⟨rfl, Grows.refl _⟩
  have c1 : ¬(1000 : Int) < (a.length : Int) := by omega
  by_cases h2 : 1000 < b.length
  · have c2 : (1000 : Int) < (b.length : Int) := by omega
    go_wp2_with fail
    go_ret
    exact ⟨rfl, Grows.refl _⟩
  have c2 : ¬(1000 : Int) < (b.length : Int) := by omega
  by_cases h3 : 1000 < s.length
  · have c3 : (1000 : Int) < (s.length : Int) := by omega
    go_wp2_with fail
    go_ret
    exact ⟨rfl, Grows.refl _⟩
  have c3 : ¬(1000 : Int) < (s.length : Int) := by omega
  cases hca : chkB a with
  | false =>
    have HA := Lib.hid hca
    clear hca
    cases hcb : chkB b with
    | false =>
      have HB := Lib.hid hcb
      clear hcb
      go_wp2_with fail
      (with_reducible refine (parse_no a _ (by omega) HA.out).mono ?_)
      rintro e w1 ⟨rfl, m1, rfl⟩
      go_wp2_with fail
      (with_reducible refine (parse_no b _ (by omega) HB.out).mono ?_)
      rintro e w1 ⟨rfl, m2, rfl⟩
      go_wp2_with fail
      (with_reducible refine (does_any _).mono ?_)
      rintro e w1 ⟨rfl, m3, rfl⟩
      go_wp2_with fail
      go_ret
      exact ⟨rfl, (by repeat' first | exact Grows.refl _ | refine Grows.more ?_ _ | refine Grows.alloc ?_ _ | refine Grows.drewN ?_ _ | refine Grows.drew ?_)⟩
    | true =>
      have HB := Lib.hid hcb
      clear hcb
      go_wp2_with fail
      (with_reducible refine (parse_no a _ (by omega) HA.out).mono ?_)
      rintro e w1 ⟨rfl, m1, rfl⟩
      go_wp2_with fail
      (with_reducible refine (parse_yes b _ (by omega) HB.out).mono ?_)
      rintro e w1 ⟨g, rfl, -, m2, rfl⟩
      go_wp2_with fail
      (with_reducible refine (does_any _).mono ?_)
      rintro e w1 ⟨rfl, m3, rfl⟩
      go_wp2_with fail
      go_ret
      exact ⟨rfl, (by repeat' first | exact Grows.refl _ | refine Grows.more ?_ _ | refine Grows.alloc ?_ _ | refine Grows.drewN ?_ _ | refine Grows.drew ?_)⟩
  | true =>
    have HA := Lib.hid hca
    clear hca
    cases hcb : chkB b with
    | false =>
      have HB := Lib.hid hcb
      clear hcb
      go_wp2_with fail
      (with_reducible refine (parse_yes a _ (by omega) HA.out).mono ?_)
      rintro e w1 ⟨g, rfl, -, m1, rfl⟩
      go_wp2_with fail
      (with_reducible refine (parse_no b _ (by omega) HB.out).mono ?_)
      rintro e w1 ⟨rfl, m2, rfl⟩
      go_wp2_with fail
      (with_reducible refine (does_any _).mono ?_)
      rintro e w1 ⟨rfl, m3, rfl⟩
      go_wp2_with fail
      go_ret
      exact ⟨rfl, (by repeat' first | exact Grows.refl _ | refine Grows.more ?_ _ | refine Grows.alloc ?_ _ | refine Grows.drewN ?_ _ | refine Grows.drew ?_)⟩
    | true =>
      have HB := Lib.hid hcb
      clear hcb
      obtain ⟨j1, j2, j3⟩ := chk_join a b HA.out
      have hcj : chkB (a ++ b) = true := j1.trans HB.out
      have HJ := Lib.hid hcj
      have J2 := Lib.hid j2
      have J3 := Lib.hid j3
      have hab := tx_append a b
      have hll : (a ++ b).length ≤ 2000 := by simp; omega
      clear j1 j2 j3 hcj
      generalize hz : a ++ b = z at *
      clear hz
      go_wp2_with fail
      (with_reducible refine (parse_yes a _ (by omega) HA.out).mono ?_)
      rintro e w1 ⟨ga, rfl, hTa, hg1⟩
      have HTa := Lib.hid hTa
      have HG1 := Lib.hid hg1
      clear hTa hg1
      go_wp2_with fail
      (with_reducible refine (parse_yes b _ (by omega) HB.out).mono ?_)
      rintro e w2 ⟨gb, rfl, hTb, hg2⟩
      have HTa2 := Lib.hid (HTa.out.grows hg2)
      have HG2 := Lib.hid (HG1.out.trans hg2)
      have HTb := Lib.hid hTb
      clear hTb hg2 HTa HG1
      go_wp2_with fail
      (with_reducible refine (parse_yes z _ (by omega) HJ.out).mono ?_)
      rintro e w3 ⟨gz, rfl, hTz, hg3⟩
      have HTa3 := Lib.hid (HTa2.out.grows hg3)
      have HTb3 := Lib.hid (HTb.out.grows hg3)
      have HG3 := Lib.hid (HG2.out.trans hg3)
      have HTz := Lib.hid hTz
      clear hTz hg3 HTa2 HTb HG2
      go_wp2_with fail
      go_loopg [14] 10 (fun q v14 wr => ∃ (i : Nat) (ms : List Int), q + i = 10 ∧ v14 = .int .i64 i ∧ ms.length = 20 ∧ wr = w3.alloc (.cells (nums ms) 23))
      case atStart => exact ⟨0, zs, by omega, rfl, rfl, rfl⟩
      case round =>
        obtain ⟨i, ms, hq, rfl, hm, rfl⟩ := hrel
        have HQ := Lib.hid hq
        have hi10 : i ≤ 10 := by omega
        clear hq
        have i0 : (0 : Int) ≤ (i : Int) := by omega
        by_cases h4 : i < 10
        · have i1 : (i : Int) < 10 := by omega
          have j1 : i * 2 < 20 := by omega
          have j2 : i * 2 + 1 < 20 := by omega
          have p0 : (0 : Int) ≤ (i : Int) * (s.length : Int) := by rw [← Int.natCast_mul]; omega
          have p1 : (i : Int) * (s.length : Int) ≤ 10000 := by
            rw [← Int.natCast_mul]
            have := Nat.mul_le_mul hi10 (show s.length ≤ 1000 by omega)
            omega
          have HM := Lib.hid hm
          go_wp2_with fail
          go_roundg (gk - 1)
          case measure => have := HQ.out; omega
          case rel => exact ⟨i + 1, _, by have := HQ.out; omega, by go_num, by simp [HM.out], rfl⟩
        · have i1 : ¬(i : Int) < 10 := by omega
          have hsz := nums_size ms
          rw [hm] at hsz
          have h1c := nums_one ms
          have HM := Lib.hid hm
          have hcat : tx (expB (strV s ms) a) ++ tx (expB (strV s ms) b) = tx (expB (strV s ms) z) := by rw [tx_append, J3.out]
          have hza := exp_small s ms a (by omega) (by omega)
          have hzb := exp_small s ms b (by omega) (by omega)
          have hma : (mostB z : Int) = max (mostB a : Int) (mostB b : Int) := by rw [J2.out]; omega
          have MZ := Lib.hid (fun W (hW : Grows w3 W) => most_g z gz W (HTz.out.grows hW) (by omega))
          have MA := Lib.hid (fun W (hW : Grows w3 W) => most_g a ga W (HTa3.out.grows hW) (by omega))
          have MB := Lib.hid (fun W (hW : Grows w3 W) => most_g b gb W (HTb3.out.grows hW) (by omega))
          have EZ := Lib.hid (fun W (hW : Grows w3 W) => expand_yes z s ms gz W (HTz.out.grows hW) (by omega) hm (by omega))
          have EA := Lib.hid (fun W (hW : Grows w3 W) => expand_yes a s ms ga W (HTa3.out.grows hW) (by omega) hm (by omega))
          have EB := Lib.hid (fun W (hW : Grows w3 W) => expand_yes b s ms gb W (HTb3.out.grows hW) (by omega) hm (by omega))
          clear hm hab
          go_wp2_with fail
          refine region_grows (by kernel_rfl) (by kernel_rfl) ?_
          repeat (go_big_quiet_step (first
            | (go_at_call 11; (with_reducible refine calls_grows (MZ.out _ ?_)); (repeat' first | exact Grows.refl _ | refine Grows.more ?_ _ | refine Grows.alloc ?_ _ | refine Grows.drewN ?_ _ | refine Grows.drew ?_))
            | (go_at_call 11; (with_reducible refine calls_grows (MA.out _ ?_)); (repeat' first | exact Grows.refl _ | refine Grows.more ?_ _ | refine Grows.alloc ?_ _ | refine Grows.drewN ?_ _ | refine Grows.drew ?_))
            | (go_at_call 11; (with_reducible refine calls_grows (MB.out _ ?_)); (repeat' first | exact Grows.refl _ | refine Grows.more ?_ _ | refine Grows.alloc ?_ _ | refine Grows.drewN ?_ _ | refine Grows.drew ?_))
            | (go_at_call 12; (with_reducible refine calls_grows (EZ.out _ ?_)); (repeat' first | exact Grows.refl _ | refine Grows.more ?_ _ | refine Grows.alloc ?_ _ | refine Grows.drewN ?_ _ | refine Grows.drew ?_))
            | (go_at_call 12; (with_reducible refine calls_grows (EA.out _ ?_)); (repeat' first | exact Grows.refl _ | refine Grows.more ?_ _ | refine Grows.alloc ?_ _ | refine Grows.drewN ?_ _ | refine Grows.drew ?_))
            | (go_at_call 12; (with_reducible refine calls_grows (EB.out _ ?_)); (repeat' first | exact Grows.refl _ | refine Grows.more ?_ _ | refine Grows.alloc ?_ _ | refine Grows.drewN ?_ _ | refine Grows.drew ?_))
            | (go_at_call 13; exact calls_grows (does_any _))))
          refine wpQuiet_nil ?_
          intro _ hw'
          obtain ⟨m7, rfl⟩ := hw'
          go_wp2_with fail
          go_ret
          exact ⟨rfl, HG3.out.trans (by repeat' first | exact Grows.refl _ | refine Grows.more ?_ _ | refine Grows.alloc ?_ _ | refine Grows.drewN ?_ _ | refine Grows.drew ?_)⟩
end Go.Proofs.Ytdgahppgpldnpaa
