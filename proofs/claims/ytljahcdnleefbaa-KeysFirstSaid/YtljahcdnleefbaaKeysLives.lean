/-
  Keys: the chapter's examples (lives), and Motion.
-/
import Derived.Test.YtljahcdnleefbaaKeysParse
namespace Go.Proofs.Ytljahcdnleefbaa
open Go.RowKit

set_option maxHeartbeats 400000 in
theorem is_true (s : ByteArray) (k0 k1 k2 k3 k4 n : Int) (w : World) (hs : s.size ≤ 100) (h1 : (parseV (codes s)).1 = ⟨k0, k1, k2, k3, k4⟩) (h2 : ((parseV (codes s)).2.1 : Int) = n) (h3 : (parseV (codes s)).2.2 = 1) :
    Calls Try.prog 11 #[.string s, .agg #[.int .u8 k0, .int .i64 k1, .int .u8 k2, .int .u8 k3, .int .u8 k4], .int .i64 n] w fun e w' => e = .returned (.bool true) ∧ Grows w w' := by
  have H1 := Lib.hid h1
  have H2 := Lib.hid h2
  have H3 := Lib.hid h3
  clear h1 h2 h3
  go_enter Try.func11, Try.ntmps11
  go_wp2_with fail
  (with_reducible refine (parse_any s _ (by omega)).mono ?_)
  rw [H1.out, H2.out, H3.out]
  unfold keyC
  rintro e w1 ⟨rfl, m, rfl⟩
  go_wp2_with fail
  go_ret
  exact ⟨rfl, by repeat' first | exact Grows.refl _ | refine Grows.more ?_ _ | refine Grows.alloc ?_ _⟩

set_option maxHeartbeats 400000 in
theorem not_true (s : ByteArray) (n z : Int) (w : World) (hs : s.size ≤ 100) (h1 : (parseV (codes s)).1 = key0) (h2 : ((parseV (codes s)).2.1 : Int) = n) (h3 : (parseV (codes s)).2.2 = z) :
    Calls Try.prog 12 #[.string s, .int .i64 n, .int .i64 z] w fun e w' => e = .returned (.bool true) ∧ Grows w w' := by
  have H1 := Lib.hid h1
  have H2 := Lib.hid h2
  have H3 := Lib.hid h3
  clear h1 h2 h3
  go_enter Try.func12, Try.ntmps12
  go_wp2_with fail
  (with_reducible refine (parse_any s _ (by omega)).mono ?_)
  rw [H1.out, H2.out, H3.out]
  unfold keyC key0
  rintro e w1 ⟨rfl, m, rfl⟩
  go_wp2_with fail
  go_ret
  exact ⟨rfl, by repeat' first | exact Grows.refl _ | refine Grows.more ?_ _ | refine Grows.alloc ?_ _⟩

set_option maxHeartbeats 400000 in
theorem motion_any (c : Int) (w : World) (hc0 : 0 ≤ c) (hc9 : c ≤ 255) :
    Calls Try.prog 9 #[.int .u8 c] w fun e w' => e = .returned (.bool (isMot c || isLet c)) ∧ w = w' := by
  go_enter Try.func9, Try.ntmps9
  cases h : isMot c with
  | true =>
    go_wp2_with fail
    (with_reducible refine (in_any c _ _ hc0 hc9).mono ?_)
    rw [inS_mot, h]
    rintro e w3 ⟨rfl, rfl⟩
    go_wp2_with fail
    go_ret
    exact ⟨rfl, rfl⟩
  | false =>
    go_wp2_with fail
    (with_reducible refine (in_any c _ _ hc0 hc9).mono ?_)
    rw [inS_mot, h]
    rintro e w3 ⟨rfl, rfl⟩
    go_wp2_with fail
    (with_reducible refine (in_any c _ _ hc0 hc9).mono ?_)
    rw [inS_let]
    rintro e w3 ⟨rfl, rfl⟩
    go_wp2_with fail
    go_ret
    exact ⟨by simp, rfl⟩

set_option maxHeartbeats 2000000 in
set_option maxRecDepth 100000 in
theorem lives_any (w : World) : Calls Try.prog 6 #[] w fun e w' => e = .returned (.bool true) ∧ Grows w w' := by
  go_enter Try.func6, Try.ntmps6
  go_wp2_with fail
  (with_reducible refine (is_true ⟨#[51, 120]⟩ 0 3 120 0 0 2 _ (by decide) (by kernel_rfl) (by kernel_rfl) (by kernel_rfl)).mono ?_); rintro e w' ⟨rfl, m', rfl⟩
  go_wp2_with fail
  (with_reducible refine (not_true ⟨#[100]⟩ 0 0 _ (by decide) (by kernel_rfl) (by kernel_rfl) (by kernel_rfl)).mono ?_); rintro e w' ⟨rfl, m', rfl⟩
  go_wp2_with fail
  (with_reducible refine (is_true ⟨#[100, 50, 119]⟩ 0 2 100 119 0 3 _ (by decide) (by kernel_rfl) (by kernel_rfl) (by kernel_rfl)).mono ?_); rintro e w' ⟨rfl, m', rfl⟩
  go_wp2_with fail
  (with_reducible refine (is_true ⟨#[50, 100, 51, 106]⟩ 0 6 100 106 0 4 _ (by decide) (by kernel_rfl) (by kernel_rfl) (by kernel_rfl)).mono ?_); rintro e w' ⟨rfl, m', rfl⟩
  go_wp2_with fail
  (with_reducible refine (is_true ⟨#[34, 97, 100, 100]⟩ 97 0 100 100 0 4 _ (by decide) (by kernel_rfl) (by kernel_rfl) (by kernel_rfl)).mono ?_); rintro e w' ⟨rfl, m', rfl⟩
  go_wp2_with fail
  (with_reducible refine (is_true ⟨#[102, 120]⟩ 0 0 102 0 120 2 _ (by decide) (by kernel_rfl) (by kernel_rfl) (by kernel_rfl)).mono ?_); rintro e w' ⟨rfl, m', rfl⟩
  go_wp2_with fail
  (with_reducible refine (not_true ⟨#[102]⟩ 0 0 _ (by decide) (by kernel_rfl) (by kernel_rfl) (by kernel_rfl)).mono ?_); rintro e w' ⟨rfl, m', rfl⟩
  go_wp2_with fail
  (with_reducible refine (not_true ⟨#[34, 33]⟩ 2 2 _ (by decide) (by kernel_rfl) (by kernel_rfl) (by kernel_rfl)).mono ?_); rintro e w' ⟨rfl, m', rfl⟩
  go_wp2_with fail
  (with_reducible refine (is_true ⟨#[48]⟩ 0 0 48 0 0 1 _ (by decide) (by kernel_rfl) (by kernel_rfl) (by kernel_rfl)).mono ?_); rintro e w' ⟨rfl, m', rfl⟩
  go_wp2_with fail
  (with_reducible refine (is_true ⟨#[49, 48, 71]⟩ 0 10 71 0 0 3 _ (by decide) (by kernel_rfl) (by kernel_rfl) (by kernel_rfl)).mono ?_); rintro e w' ⟨rfl, m', rfl⟩
  go_wp2_with fail
  (with_reducible refine (is_true ⟨#[48, 48]⟩ 0 0 48 0 0 1 _ (by decide) (by kernel_rfl) (by kernel_rfl) (by kernel_rfl)).mono ?_); rintro e w' ⟨rfl, m', rfl⟩
  go_wp2_with fail
  (with_reducible refine (not_true ⟨#[113]⟩ 1 2 _ (by decide) (by kernel_rfl) (by kernel_rfl) (by kernel_rfl)).mono ?_); rintro e w' ⟨rfl, m', rfl⟩
  go_wp2_with fail
  (with_reducible refine (not_true ⟨#[100, 113]⟩ 2 2 _ (by decide) (by kernel_rfl) (by kernel_rfl) (by kernel_rfl)).mono ?_); rintro e w' ⟨rfl, m', rfl⟩
  go_wp2_with fail
  (with_reducible refine (not_true ⟨#[49, 50, 51, 52, 53, 120]⟩ 5 2 _ (by decide) (by kernel_rfl) (by kernel_rfl) (by kernel_rfl)).mono ?_); rintro e w' ⟨rfl, m', rfl⟩
  go_wp2_with fail
  (with_reducible refine (is_true ⟨#[13]⟩ 0 0 43 0 0 1 _ (by decide) (by kernel_rfl) (by kernel_rfl) (by kernel_rfl)).mono ?_); rintro e w' ⟨rfl, m', rfl⟩
  go_wp2_with fail
  go_ret
  exact ⟨rfl, by repeat' first | exact Grows.refl _ | refine Grows.more ?_ _ | refine Grows.alloc ?_ _⟩

end Go.Proofs.Ytljahcdnleefbaa
