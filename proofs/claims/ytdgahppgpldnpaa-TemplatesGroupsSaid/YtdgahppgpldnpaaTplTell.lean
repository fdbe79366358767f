/-
  Templates: the laws TemplatesTell and TemplatesNone.
-/
import Derived.Test.YtdgahppgpldnpaaTplDoes
namespace Go.Proofs.Ytdgahppgpldnpaa
open Go.RowKit

attribute [local go_sem] tx_bt tx_from tx_toList nums_size
theorem most_g (t : List UInt8) (g : Nat) (w : World) (h : TplIs t w g) (hl : t.length ≤ 100000) : Calls Try.prog 11 #[.pointer (some ⟨g, 0, none⟩)] w fun e w' => e = .returned (.int .i64 (mostB t)) ∧ Grows w w' :=
  (most_yes t g w h hl).mono fun e w' ⟨he, hw⟩ => ⟨he, hw ▸ Grows.refl _⟩
theorem refMost_g (s : List UInt8) (w : World) (hl : s.length ≤ 1000000) : Calls Try.prog 14 #[.string (tx s)] w fun e w' => e = .returned (.int .i64 (mostB s)) ∧ Grows w w' :=
  (refMost_any s w hl).mono fun e w' ⟨he, hw⟩ => ⟨he, hw ▸ Grows.refl _⟩
set_option maxRecDepth 100000 in
set_option maxHeartbeats 4000000 in
theorem templatesTell_law (t s : List UInt8) (ms : List Int) (w : World) (hm : ms.length = 20) (ht : t.length ≤ 9223372036854775807) (hs : s.length ≤ 9223372036854775807) : Calls Try.prog 3 #[.string (tx t), .string (tx s), .agg (nums ms)] w fun e w' => e = .returned (.bool true) ∧ Grows w w' := by
  have HM := Lib.hid hm
  have hsz := nums_size ms
  rw [hm] at hsz
  have h1c := nums_one ms
  clear hm
  go_enter Try.func3, Try.ntmps3
  by_cases h1 : 3000 < t.length
  · have c1 : (3000 : Int) < (t.length : Int) := by omega
    go_wp2_with fail
    go_ret
    exact ⟨rfl, (Grows.refl _).alloc _⟩
  have c1 : ¬(3000 : Int) < (t.length : Int) := by omega
  by_cases h2 : 3000 < s.length
  · have c2 : (3000 : Int) < (s.length : Int) := by omega
    go_wp2_with fail
    go_ret
    exact ⟨rfl, (Grows.refl _).alloc _⟩
  have c2 : ¬(3000 : Int) < (s.length : Int) := by omega
  cases hc : chkB t with
  | false =>
    have HE : Hid (chkE t = 110) := Lib.hid (by unfold chkE; rw [hc]; rfl)
    have HC := Lib.hid hc
    clear hc
    go_wp2_with fail
    (with_reducible refine (parse_no t _ (by omega) HC.out).mono ?_)
    rintro e w1 ⟨rfl, m1, rfl⟩
    go_wp2_with fail
    (with_reducible refine (refCheck_any t _ (by omega)).mono ?_)
    rw [HE.out]
    rintro e w1 ⟨rfl, rfl⟩
    go_wp2_with fail
    (with_reducible refine (most_nil _).mono ?_)
    rintro e w1 ⟨rfl, rfl⟩
    go_wp2_with fail
    (with_reducible refine (expand_nil s ms _).mono ?_)
    rintro e w1 ⟨rfl, m2, rfl⟩
    go_wp2_with fail
    (with_reducible refine (does_any _).mono ?_)
    rintro e w1 ⟨rfl, m3, rfl⟩
    go_wp2_with fail
    go_ret
    exact ⟨rfl, (by repeat' first | exact Grows.refl _ | refine Grows.more ?_ _ | refine Grows.alloc ?_ _ | refine Grows.drewN ?_ _ | refine Grows.drew ?_)⟩
  | true =>
    have HE : Hid (chkE t = 0) := Lib.hid (by unfold chkE; rw [hc]; rfl)
    have HC := Lib.hid hc
    clear hc
    go_wp2_with fail
    (with_reducible refine (parse_yes t _ (by omega) HC.out).mono ?_)
    rintro e w1 ⟨g, rfl, hT, m1, rfl⟩
    have HT := Lib.hid hT
    clear hT
    go_wp2_with fail
    (with_reducible refine (refCheck_any t _ (by omega)).mono ?_)
    rw [HE.out]
    rintro e w1 ⟨rfl, rfl⟩
    have e1 : ((mostB t : Int) == (mostB t : Int)) = true := beq_self_eq_true _
    go_wp2_with fail
    refine region_grows (by kernel_rfl) (by kernel_rfl) ?_
    repeat (go_big_quiet_step (first
      | (go_at_call 11; exact calls_grows (most_g t g _ (HT.out.grows (by repeat' first | exact Grows.refl _ | refine Grows.more ?_ _ | refine Grows.alloc ?_ _ | refine Grows.drewN ?_ _ | refine Grows.drew ?_)) (by omega)))
      | (go_at_call 14; exact calls_grows (refMost_g t _ (by omega)))
      | (go_at_call 12; exact calls_grows (expand_yes t s ms g _ (HT.out.grows (by repeat' first | exact Grows.refl _ | refine Grows.more ?_ _ | refine Grows.alloc ?_ _ | refine Grows.drewN ?_ _ | refine Grows.drew ?_)) (by omega) HM.out (by omega)))
      | (go_at_call 15; exact calls_grows (refExpand_any t s ms _ (by omega) HM.out (by omega)))
      | (go_at_call 13; exact calls_grows (does_any _))))
    refine wpQuiet_nil ?_
    intro _ hw'
    obtain ⟨m7, rfl⟩ := hw'
    go_wp2_with fail
    go_ret
    exact ⟨rfl, (by repeat' first | exact Grows.refl _ | refine Grows.more ?_ _ | refine Grows.alloc ?_ _ | refine Grows.drewN ?_ _ | refine Grows.drew ?_)⟩
theorem is_empty (w w' : World) (g : Nat) (hc : w.cell? ⟨g, 0, none⟩ = some (.slice none 0 0)) (hl : g < w.heap.size) : TplIs [] w g := ⟨[], rfl, none, 0, hc, hl, by simp, by omega, Rd.nil_⟩
set_option maxRecDepth 100000 in
set_option maxHeartbeats 4000000 in
theorem templatesNone_law (s : List UInt8) (ms : List Int) (w : World) (hm : ms.length = 20) (hs : s.length ≤ 9223372036854775807) : Calls Try.prog 4 #[.string (tx s), .agg (nums ms)] w fun e w' => e = .returned (.bool true) ∧ Grows w w' := by
  have HM := Lib.hid hm
  have hsz := nums_size ms
  rw [hm] at hsz
  have h1c := nums_one ms
  clear hm
  go_enter Try.func4, Try.ntmps4
  by_cases h2 : 3000 < s.length
  · have c2 : (3000 : Int) < (s.length : Int) := by omega
    go_wp2_with fail
    go_ret
    exact ⟨rfl, (Grows.refl _).alloc _⟩
  have c2 : ¬(3000 : Int) < (s.length : Int) := by omega
  go_wp2_with fail
  (with_reducible refine (parse_yes_lit _ _ (by decide) (by decide)).mono ?_)
  rintro e w1 ⟨g, rfl, hT, m1, rfl⟩
  have HT : Hid (TplIs [] (more (w.alloc (.cells (nums ms) 23)) m1) g) := Lib.hid hT
  clear hT
  go_wp2_with fail
  (with_reducible refine (expand_yes [] s ms g _ (HT.out.grows (by repeat' first | exact Grows.refl _ | refine Grows.more ?_ _ | refine Grows.alloc ?_ _ | refine Grows.drewN ?_ _ | refine Grows.drew ?_)) (by simp) HM.out (by omega)).mono ?_)
  rw [show expB (strV s ms) [] = [] from rfl]
  rintro e w1 ⟨rfl, m2, rfl⟩
  go_wp2_with fail
  (with_reducible refine (most_lit [] 0 _ _ (HT.out.grows (by repeat' first | exact Grows.refl _ | refine Grows.more ?_ _ | refine Grows.alloc ?_ _ | refine Grows.drewN ?_ _ | refine Grows.drew ?_)) (by decide) (by decide)).mono ?_)
  rintro e w1 ⟨rfl, rfl⟩
  go_wp2_with fail
  (with_reducible refine (expand_nil s ms _).mono ?_)
  rintro e w1 ⟨rfl, m3, rfl⟩
  go_wp2_with fail
  (with_reducible refine (most_nil _).mono ?_)
  rintro e w1 ⟨rfl, rfl⟩
  go_wp2_with fail
  (with_reducible refine (expand_yes [] s ms _ _ (is_empty _ w _ (by simp [go_sem]) (by simp)) (by simp) HM.out (by omega)).mono ?_)
  rw [show expB (strV s ms) [] = [] from rfl]
  rintro e w1 ⟨rfl, m4, rfl⟩
  go_wp2_with fail
  (with_reducible refine (does_any _).mono ?_)
  rintro e w1 ⟨rfl, m5, rfl⟩
  go_wp2_with fail
  go_ret
  exact ⟨rfl, (by repeat' first | exact Grows.refl _ | refine Grows.more ?_ _ | refine Grows.alloc ?_ _ | refine Grows.drewN ?_ _ | refine Grows.drew ?_)⟩
end Go.Proofs.Ytdgahppgpldnpaa
