/-
  Keys: the law KeysRead.
-/
import Derived.Test.YtljahcdnleefbaaKeysRefParse
namespace Go.Proofs.Ytljahcdnleefbaa
open Go.RowKit

set_option maxHeartbeats 1000000 in
set_option maxRecDepth 100000 in
theorem keysRead_any (s : ByteArray) (c : Int) (hc : 0 ≤ c ∧ c ≤ 255) (w : World) : Calls Try.prog 4 #[.string s, .int .u8 c] w fun e w' => e = .returned (.bool true) ∧ Grows w w' := by
  obtain ⟨hc0, hc9⟩ := hc
  by_cases h40 : 40 < s.size
  · go_enter Try.func4, Try.ntmps4
    go_wp2_with fail
    (with_reducible refine (lives_any _).mono ?_); rintro e w' ⟨rfl, m', rfl⟩
    go_wp2_with fail
    go_ret
    exact ⟨rfl, (Grows.refl _).more _⟩
  · have HQ := Lib.hid (ref_parse (codes s))
    go_enter Try.func4, Try.ntmps4
    go_wp2_with fail
    (with_reducible refine (parse_any s _ (by omega)).mono ?_)
    obtain ⟨⟨a, b, x, d, f⟩, n, z, hp⟩ : ∃ k n z, parseV (codes s) = (k, n, z) := ⟨_, _, _, rfl⟩
    have HP := Lib.hid hp
    clear hp
    rw [HP.out]
    simp only [keyC]
    rintro e w1 ⟨rfl, m, rfl⟩
    go_wp2_with fail
    (with_reducible refine (refParse_any s _ (by omega)).mono ?_)
    rw [HQ.out, HP.out]
    simp only [keyC]
    rintro e w1 ⟨rfl, m2, rfl⟩
    go_wp2_with fail
    (with_reducible refine (motion_any c _ hc0 hc9).mono ?_)
    rintro e w' ⟨rfl, rfl⟩
    go_wp2_with fail
    (with_reducible refine (refMotion_any c _).mono ?_)
    rintro e w' ⟨rfl, rfl⟩
    go_wp2_with fail
    (with_reducible refine (lives_any _).mono ?_); rintro e w' ⟨rfl, m', rfl⟩
    go_wp2_with fail
    go_ret
    exact ⟨rfl, by repeat' first | exact Grows.refl _ | refine Grows.more ?_ _ | refine Grows.alloc ?_ _⟩
end Go.Proofs.Ytljahcdnleefbaa
