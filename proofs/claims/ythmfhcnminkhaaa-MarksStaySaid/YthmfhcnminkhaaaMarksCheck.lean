/-
  Marks: the walk of marks.Check.
-/
import Derived.Test.YthmfhcnminkhaaaMarksSet
namespace Go.Proofs.Ythmfhcnminkhaaa
open Go.RowKit
attribute [local go_sem ↓] zero23
attribute [local go_sem] set_MA

set_option maxHeartbeats 400000 in
theorem check_any (ms : List Int) (n : Int) (w : World) (hms : ms.length = 26) :
    Calls Try.prog 18 #[.agg (MA ms), .int .i64 n] w fun e w' => e = .returned (.bool (checkV ms n)) ∧ Grows w w' := by
  go_enter Try.func18, Try.ntmps18
  go_wp2
  go_loop [8] (fun i => ∃ k : Nat, k ≤ 26 ∧ i = .int .i64 k ∧ ∀ j (hj : j < k) (hk : j < ms.length), 0 ≤ ms[j] ∧ ms[j] ≤ n) (fun i => 26 - (intOf i).toNat)
  case atStart => exact ⟨0, by omega, rfl, fun j hj => absurd hj (by omega)⟩
  case round =>
    obtain ⟨k, hk, rfl, hall⟩ := hrel
    have HA := Lib.hid hall
    clear hall
    by_cases hlt : k < 26
    · by_cases h1 : (ms[k]'(by omega)) < 0
      · have H := Lib.hid (checkV_false ms n k (by omega) (.inl h1))
        go_wp2
        go_ret
        exact ⟨by rw [H.out]; rfl, (Grows.refl w).alloc _⟩
      · by_cases h2 : n < (ms[k]'(by omega))
        · have H := Lib.hid (checkV_false ms n k (by omega) (.inr h2))
          go_wp2
          go_ret
          exact ⟨by rw [H.out]; rfl, (Grows.refl w).alloc _⟩
        · go_wp2
          refine ⟨⟨k + 1, by omega, by go_num, fun j hj hk' => ?_⟩, by simp [intOf]; omega⟩
          by_cases e : j = k
          · subst e; exact ⟨by omega, by omega⟩
          · exact HA.out j (by omega) hk'
    · have H := Lib.hid (checkV_true ms n fun j hj => HA.out j (by omega) hj)
      go_wp2
      go_ret
      exact ⟨by rw [H.out]; rfl, (Grows.refl w).alloc _⟩

end Go.Proofs.Ythmfhcnminkhaaa
