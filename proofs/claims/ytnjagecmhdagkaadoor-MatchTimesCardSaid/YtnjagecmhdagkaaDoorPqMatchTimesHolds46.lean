/-
  Matches: a number's digits, walked.
-/
import Derived.Test.YtnjagecmhdagkaaDoorPqMatchTimesHolds41
set_option linter.unusedSimpArgs false
set_option linter.unusedVariables false
namespace Go.Proofs.YtnjagecmhdagkaaDoor
open Go.RowKit

set_option maxRecDepth 3000 in
theorem num10_any (n : Nat) (w : World) (hn : n < 100000) : Calls Tryd.prog 16 #[.int .i64 n] w fun e w' => e = .returned (.string (tx (digitsV n))) ∧ Grows w w' := by
  have hc := conv_dig n w
  obtain ⟨R, hR⟩ : ∃ R, digitsV n = R := ⟨_, rfl⟩
  rw [hR]
  have HR := Lib.hid hR
  clear hR
  have hd : (n : Int) / 10 = ((n / 10 : Nat) : Int) := by omega
  have HD := Lib.hid hd
  clear hd
  go_enter Tryd.func16, Tryd.ntmps16
  go_wp2_with fail
  go_loopg [0, 3] (n / 10) (fun q v0 v3 wr => ∃ (k : Nat) (s : List UInt8), q = k ∧ k < 100000 ∧ v0 = .int .i64 k ∧ v3 = .string (tx s) ∧ digL k s = R ∧ s.length + k ≤ 100001 ∧ Grows w wr)
  case atStart => exact ⟨n / 10, _, rfl, by omega, by first | rfl | rw [HD.out], rfl, HR.out, by simp; omega, (Grows.refl w).alloc _⟩
  case round =>
    obtain ⟨k, s, rfl, hk, rfl, rfl, hr, hsl, hg⟩ := hrel
    clear hc
    rcases Nat.eq_zero_or_pos gk with h0 | h0
    · subst h0
      rw [digL_zero] at hr
      subst hr
      go_wp2_with fail
      go_ret
      exact ⟨rfl, hg⟩
    · rw [digL_pos _ _ h0] at hr
      have HR := Lib.hid hr
      clear hr
      have hc := conv_dig gk wr
      have hcat : tx [dig8 gk] ++ tx s = tx (dig8 gk :: s) := tx_append _ _
      have hd2 : (gk : Int) / 10 = ((gk / 10 : Nat) : Int) := by omega
      have HD2 := Lib.hid hd2
      clear hd2
      have hll : s.length ≤ 100001 := by omega
      go_wp2_with fail
      go_roundg (gk / 10)
      case measure => omega
      case rel => exact ⟨gk / 10, _, rfl, by omega, by rw [HD2.out], rfl, HR.out, by simp; omega, hg.alloc _⟩
end Go.Proofs.YtnjagecmhdagkaaDoor
