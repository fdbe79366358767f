/-
  Chapter 16: the law MarksTell: whatever the input, it answers true.
-/
import Derived.Test.YthmfhcnminkhaaaMarksLives
namespace Go.Proofs.Ythmfhcnminkhaaa
open Go.RowKit
attribute [local go_sem ↓] zero23
attribute [local go_sem] set_MA equal23

theorem wrap_u8 (n : Int) : 0 ≤ IntKind.u8.wrap n ∧ IntKind.u8.wrap n ≤ 255 := by
  simp only [IntKind.wrap_u8]; omega
theorem len_setV (ms : List Int) (c line n : Int) (h : ms.length = 26) : (setV ms c line n).1.length = 26 := by
  unfold setV; repeat' split
  all_goals simp [h]

theorem beyond_one (at_ del : Int) (A : Option Addr) (len cap g : Nat) (w : World) (hl : len ≤ 9223372036854775807) (hg : InHeap g w)
    (h0 : w.cell? ⟨g, 0, none⟩ = some (.int .i64 at_)) (h1 : w.cell? ⟨g, 1, none⟩ = some (.int .i64 del)) (h2 : w.cell? ⟨g, 2, none⟩ = some (.slice A len cap)) :
    Calls Try.prog 6 #[.slice (some ⟨g, 0, none⟩) 1 1, .int .i64 1] w fun e w' => e = .returned (.bool (decide (100 < len))) ∧ w = w' := by
  have h := beyond_any [⟨at_, del, A, len, cap⟩] (some ⟨g, 0, none⟩) 1 1 w ⟨rfl, fun _ => ⟨g, 0, rfl, hg, fun j u hu => ?_⟩⟩ (by simp) (by simpa using hl)
  · have e : beyondV [⟨at_, del, A, len, cap⟩] 1 = decide (100 < len) := by simp [beyondV]
    rw [e] at h
    exact h
  · match j, hu with
    | 0, hu => simp [Spl.cells] at hu; subst hu; simpa using h0
    | 1, hu => simp [Spl.cells] at hu; subst hu; simpa using h1
    | 2, hu => simp [Spl.cells] at hu; subst hu; simpa using h2
    | j + 3, hu => simp [Spl.cells] at hu

set_option maxHeartbeats 2000000 in
set_option maxRecDepth 100000 in
theorem marksTell_any (ms : List Int) (n0 n1 n2 at_ del : Int) (A : Option Addr) (len cap : Nat) (w : World) (hms : ms.length = 26) (hm : ∀ n ∈ ms, I64 n) (h1 : I64 n1) (ha : I64 at_) (hd : I64 del) (hl : len ≤ 9223372036854775807) :
    Calls Try.prog 3 #[.agg (MA ms), .agg #[.int .i64 n0, .int .i64 n1, .int .i64 n2], .agg #[.int .i64 at_, .int .i64 del, .slice A len cap]] w fun e w' => e = .returned (.bool true) ∧ Grows w w' := by
  have hc0 : 0 ≤ n0 % 256 := by omega
  have hc1 : n0 % 256 ≤ 255 := by omega
  by_cases h100 : 100 < len
  · have hb : decide (100 < len) = true := by simpa using h100
    go_enter Try.func3, Try.ntmps3
    go_wp2_with fail
    go_quiet (fail)
    go_wp2_with fail
    (with_reducible refine (beyond_one at_ del A len cap _ _ hl ?_ ?_ ?_ ?_).mono ?_)
    · simp [go_sem]
    · simp [go_sem]
    · simp [go_sem]
    · simp [go_sem]
    rw [hb]
    rintro e w' ⟨rfl, rfl⟩
    go_wp2_with fail
    (with_reducible refine (lives_any _).mono ?_); rintro e w' ⟨rfl, m', rfl⟩
    go_wp2_with fail
    go_ret
    exact ⟨rfl, by repeat' first | exact Grows.refl _ | refine Grows.more ?_ _ | refine Grows.alloc ?_ _ | refine Grows.drewN ?_ _⟩
  · have hb : decide (100 < len) = false := by simpa using h100
    have hls := len_setV ms (n0 % 256) n1 n2 hms
    go_enter Try.func3, Try.ntmps3
    go_wp2_with fail
    go_quiet (fail)
    go_wp2_with fail
    (with_reducible refine (beyond_one at_ del A len cap _ _ hl ?_ ?_ ?_ ?_).mono ?_)
    · simp [go_sem]
    · simp [go_sem]
    · simp [go_sem]
    · simp [go_sem]
    rw [hb]
    rintro e w' ⟨rfl, rfl⟩
    go_wp2_with fail
    (with_reducible refine (set_any ms _ _ _ _ hms hc0 hc1).mono ?_); rintro e w' ⟨rfl, m1, rfl⟩
    go_wp2_with fail
    (with_reducible refine (refSet_any ms _ _ _ _ hms hc0 hc1).mono ?_); rintro e w' ⟨rfl, m2, rfl⟩
    go_wp2_with fail
    (with_reducible refine (get_any ms _ _ hms hc0 hc1).mono ?_); rintro e w' ⟨rfl, m3, rfl⟩
    go_wp2_with fail
    (with_reducible refine (refGet_any ms _ _ hms hc0 hc1).mono ?_); rintro e w' ⟨rfl, m4, rfl⟩
    go_wp2_with fail
    (with_reducible refine (line_any _ _ _ _ _ _ _ h1 ha hd hl).mono ?_); rintro e w' ⟨rfl, m5, rfl⟩
    go_wp2_with fail
    (with_reducible refine (refLine_any _ _ _ _ _ _ _ h1 ha hd hl).mono ?_); rintro e w' ⟨rfl, m6, rfl⟩
    go_wp2_with fail
    refine region_grows (by kernel_rfl) (by kernel_rfl) ?_
    repeat (go_big_quiet_step (first | (go_at_call 14; exact calls_grows (shift_any ms _ _ _ _ _ _ hms hm ha hd hl)) | (go_at_call 15; exact calls_grows (refShift_any ms _ _ _ _ _ _ hms hm ha hd hl)) | (go_at_call 7; exact calls_grows (lives_any _))))
    refine wpQuiet_nil ?_
    intro _ hw'
    obtain ⟨m7, rfl⟩ := hw'
    go_wp2_with fail
    go_ret
    exact ⟨rfl, by repeat' first | exact Grows.refl _ | refine Grows.more ?_ _ | refine Grows.alloc ?_ _ | refine Grows.drewN ?_ _⟩

end Go.Proofs.Ythmfhcnminkhaaa
