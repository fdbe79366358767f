/-
  Chapter 16: the law MarksAll: whatever the input, it answers true.
-/
import Derived.Test.YthmfhcnminkhaaaMarksAll
import Derived.Test.YthmfhcnminkhaaaTail
namespace Go.Proofs.Ythmfhcnminkhaaa
open Go.RowKit
attribute [local go_sem ↓] zero23
attribute [local go_sem] set_MA equal23

theorem Spl.ok.len_le {s : Spl} (h : s.ok) : s.len ≤ 9223372036854775807 := h.2.2
/-- A new list of empty lines. -/
def empties (n : Nat) : Array Value := madeCells #[.string ⟨#[]⟩] n
theorem info9 : (Try.prog.info? 9).map (fun i => (i.zero, i.size, i.bytes)) = some (some (.string ⟨#[]⟩), 1, 16) := by kernel_rfl
theorem make_empties (n : Nat) (h : n ≤ 1000) (w : World) : (Instr.makeSlice 25 (.int .i64 (n : Int)) (.int .i64 (n : Int))).run Try.prog w = .ok (.slice (some ⟨w.heap.size, 0, none⟩) n n) (w.alloc (.cells (empties n) 9)) := by
  obtain ⟨i0, hi, hz0, hz1, hz2⟩ := info_parts info9
  have := run_make (P := Try.prog) w 25 9 i0 _ Try.underlying25 hi hz0 .i64 .i64 n n (by omega) (by omega) (by rw [hz2]; omega) (by omega)
  rw [hz1] at this
  simpa [empties, Value.cells] using this

/-- The line to which the splice that takes one back leads. -/
def backV (n at_ del : Int) (len : Nat) : Int × Bool := lineV (lineV n at_ del len).1 at_ len (min (max del 0) 1000)
theorem lineV_none (n at_ del len : Int) (h : (lineV n at_ del len).2 = false) : (lineV n at_ del len).1 = 0 := by
  unfold lineV at *
  repeat' split at h
  all_goals first | (simp at h; done) | skip
  · rename_i h1; rw [if_pos h1]
  · rename_i h1 h2 h3; rw [if_neg h1, if_neg h2, if_pos h3]
theorem lineV_some (n at_ del len : Int) (h : (lineV n at_ del len).2 = true) : 1 ≤ n ∧ 0 ≤ at_ ∧ 0 ≤ del := by
  unfold lineV at h
  repeat' split at h
  all_goals first | (simp at h; done) | (refine ⟨?_, ?_, ?_⟩ <;> omega)
theorem backV_back (n at_ del : Int) (len : Nat) (h : (lineV n at_ del len).2 = true) (hn : I64 n) (ha : I64 at_) (hd : del ≤ 1000) (hl : len ≤ 100) (hs : n < 1099511627776) : backV n at_ del len = (n, true) := by
  obtain ⟨h1, h2, h3⟩ := lineV_some _ _ _ _ h
  have e : min (max del 0) 1000 = del := by omega
  unfold backV
  rw [e]
  unfold I64 at hn ha
  by_cases hle : n ≤ at_
  · have e1 : lineV n at_ del len = (n, true) := by unfold lineV; rw [if_neg (by omega), if_pos hle]
    rw [e1]
    unfold lineV
    rw [if_neg (by simp; omega), if_pos hle]
  · by_cases hgo : n - at_ ≤ del
    · have e1 : lineV n at_ del len = (0, false) := by unfold lineV; rw [if_neg (by omega), if_neg hle, if_pos hgo]
      rw [e1] at h; simp at h
    · have hw : wrap64 (n - del + len) = n - del + len := by unfold wrap64; omega
      have e1 : lineV n at_ del len = (n - del + len, true) := by unfold lineV; rw [if_neg (by omega), if_neg hle, if_neg hgo, hw]
      rw [e1]
      unfold lineV
      rw [if_neg (by simp; omega), if_neg (by simp; omega), if_neg (by simp; omega)]
      have hw3 : wrap64 n = n := by unfold wrap64; omega
      simp [hw3]

set_option maxHeartbeats 2000000 in
set_option maxRecDepth 100000 in
theorem marksAll_any (ms : List Int) (L : List Spl) (A : Option Addr) (cap : Nat) (w : World) (hms : ms.length = 26) (hm : ∀ n ∈ ms, I64 n) (hL : Rd w 3 A L.length (L.flatMap Spl.cells)) (hlen : L.length ≤ 9223372036854775807) (hl : ∀ s ∈ L, s.ok) (hbey : beyondV L 20 = false) :
    Calls Try.prog 4 #[.agg (MA ms), .slice A L.length cap] w fun e w' => e = .returned (.bool true) ∧ Grows w w' := by
  have hlenA : ∀ K, (allV ms K).length = 26 := fun K => (length_allV K ms).trans hms
  go_enter Try.func4, Try.ntmps4
  go_wp2_with fail
  (with_reducible refine (beyond_any L A cap 20 _ (hL.grows ((Grows.refl _).alloc _)) hlen (fun s hs => (hl s hs).len_le)).mono ?_)
  rw [hbey]
  rintro e w' ⟨rfl, rfl⟩
  go_wp2_with fail
  go_loopw [6] (fun i wr => ∃ k : Nat, k ≤ L.length ∧ i = .int .i64 k ∧ Grows ((w.alloc (.cells (MA ms) 23)).alloc (.cells (MA (allV ms (L.take k))) 23)) wr) (fun i _ => L.length - (intOf i).toNat)
  case atStart => exact ⟨0, by omega, rfl, Grows.refl _⟩
  case round =>
    obtain ⟨k, hk, rfl, m, rfl⟩ := hrel
    by_cases hlt : k < L.length
    · obtain ⟨b, o, rfl, hb, hc⟩ := hL.2 (by omega)
      obtain ⟨hc0, hc1, hc2⟩ := cells_at L k hlt
      have hc0 := hc _ _ hc0
      have hc1 := hc _ _ hc1
      have hc2 := hc _ _ hc2
      rw [← Nat.add_assoc] at hc1 hc2
      have hb : InHeap b w := hb
      have HC := Lib.hid hc
      clear hc
      obtain ⟨ha, hd, hsl⟩ := hl _ (List.getElem_mem hlt)
      have H := Lib.hid (allV_succ ms L k hlt)
      have hma := allV_i64 (L.take k) ms hm
      have hla := hlenA (L.take k)
      have hs100 : L[k].len ≤ 100 := by
        simp only [beyondV, Bool.or_eq_false_iff, List.any_eq_false, decide_eq_true_eq] at hbey
        have := hbey.2 _ (List.getElem_mem hlt)
        omega
      have hk0 : (0 : Int) ≤ (k : Int) := Int.natCast_nonneg _
      have hk1 : (k : Int) < (L.length : Int) := by omega
      have hLm := hlen
      clear hlenA hms hm hL hlen hl hbey
      generalize allV ms (L.take k) = a at *
      generalize L[k] = s at *
      obtain ⟨at_, del, A', len, cap'⟩ := s
      dsimp only at *
      go_upto_region 7 with fail
      go_cut [7] (fun v7 wx => FreshIn ((w.alloc (.cells (MA ms) 23)).alloc (.cells (MA a) 23)) (.cells (MA (shiftV a at_ del len)) 23) v7 wx)
      case first =>
        go_region_with (go_at_call 14; refine (shift_any _ _ _ _ _ _ _ hla hma ha hd hsl).mono ?_; rintro e w' ⟨rfl, m', rfl⟩)
        all_goals
          go_wp2_with fail
          go_meet
          first | exact FreshIn.late ((Grows.of _ _).more _) _ _ (by simp) | exact FreshIn.early _ _ _ _ _ (by simp)
      case rest =>
        obtain ⟨m1, m2, hv7, rfl⟩ := hcut
        simp only [size_more, World.size_alloc] at hv7
        subst hv7
        go_wp2_with fail
        go_loopw [8] (fun i wr => ∃ j : Nat, j ≤ 26 ∧ i = .int .i64 j ∧ Grows ((more ((w.alloc (.cells (MA ms) 23)).alloc (.cells (MA a) 23)) m1).alloc (.cells (MA (shiftV a at_ del len)) 23)) wr) (fun i _ => 26 - (intOf i).toNat)
        case atStart => exact ⟨0, by omega, rfl, Grows.of _ _⟩
        case round =>
          clear m2
          obtain ⟨j, hj, rfl, m2, rfl⟩ := hrel
          by_cases hjt : j < 26
          · have hx : I64 (a[j]'(by omega)) := hma _ (List.getElem_mem _)
            have hsv : (shiftV a at_ del len)[j]'(by simp; omega) = (lineV (a[j]'(by omega)) at_ del len).1 := by simp [shiftV]
            have hj0 : (0 : Int) ≤ (j : Int) := Int.natCast_nonneg _
            have hj1 : (j : Int) < 26 := by omega
            have hlnone := Lib.hid (lineV_none (a[j]'(by omega)) at_ del len)
            have hlen : I64 (len : Int) := i64 (by omega) (by omega)
            have hxl : I64 (lineV (a[j]'(by omega)) at_ del len).1 := lineV_i64 _ _ _ _ hx
            go_wp2_with fail
            refine region_grows (by kernel_rfl) (by kernel_rfl) ?_
            repeat (go_big_quiet_step (first | (go_at_call 12; exact calls_grows (line_any _ _ _ _ _ _ _ hx ha hd hsl))))
            refine wpQuiet_nil ?_
            intro _ hw'
            obtain ⟨m3, rfl⟩ := hw'
            rw [more_more]
            generalize (⟨m2.bs ++ m3.bs, m3.n⟩ : More) = m4
            clear m2 m3
            go_upto_region 12 with fail
            go_cut [9, 10, 56] (fun v9 v10 v wx => v9 = .int .i64 (lineV (a[j]'(by omega)) at_ del len).1 ∧ v10 = .bool (lineV (a[j]'(by omega)) at_ del len).2 ∧ v = .bool false ∧ wx = more ((more ((w.alloc (.cells (MA ms) 23)).alloc (.cells (MA a) 23)) m1).alloc (.cells (MA (shiftV a at_ del len)) 23)) m4)
            case first =>
              by_cases hok : (lineV (a[j]'(by omega)) at_ del len).2 = true
              · go_wp2_with fail
                go_meet
                exact ⟨by first | rfl | rw [hln], by first | rfl | rw [hok], rfl, rfl⟩
              · have hok : (lineV (a[j]'(by omega)) at_ del len).2 = false := by simpa using hok
                have hln := hlnone.out hok
                go_wp2_with fail
                go_meet
                exact ⟨by first | rfl | rw [hln], by first | rfl | rw [hok], rfl, rfl⟩
            case rest =>
              obtain ⟨rfl, rfl, rfl, rfl⟩ := hcut
              go_upto_region 14 with fail
              go_cut [11, 12] (fun v u wx => v = .int .i64 (backV (a[j]'(by omega)) at_ del len).1 ∧ u = .bool (backV (a[j]'(by omega)) at_ del len).2 ∧ Grows ((more ((w.alloc (.cells (MA ms) 23)).alloc (.cells (MA a) 23)) m1).alloc (.cells (MA (shiftV a at_ del len)) 23)) wx)
              case first =>
                by_cases hneg : del < 0
                · have hmk := make_empties 0 (by omega)
                  simp only [Int.cast_ofNat_Int] at hmk
                  have H0 := Lib.hid (show min (max del 0) 1000 = ((0 : Nat) : Int) by omega)
                  go_region_held3 (fun w' => w'.cell? ⟨b, o + k * 3, none⟩ = some (.int .i64 at_) ∧ w'.cell? ⟨b, o + k * 3 + 1, none⟩ = some (.int .i64 del) ∧ w'.cell? ⟨b, o + k * 3 + 2, none⟩ = some (.slice A' len cap'))
                    (first | (simp [go_sem, hb, hc0, hc1, hc2]; done))
                    (first | (go_at_call 12; refine (line_any _ _ _ _ _ _ _ hxl ha hlen (by omega)).mono ?_; rintro e w' ⟨rfl, m', rfl⟩))
                  go_wp2_with fail
                  go_meet
                  unfold backV
                  rw [H0.out]
                  exact ⟨rfl, rfl, by repeat' first | exact Grows.of _ _ | exact Grows.refl _ | refine Grows.more ?_ _ | refine Grows.alloc ?_ _ | refine Grows.drew ?_⟩
                · obtain ⟨D, rfl⟩ := Int.eq_ofNat_of_zero_le (show 0 ≤ del by omega)
                  clear hneg
                  by_cases hbig : 1000 < D
                  · have hmk := make_empties 1000 (by omega)
                    simp only [Int.cast_ofNat_Int] at hmk
                    have H0 := Lib.hid (show min (max (D : Int) 0) 1000 = ((1000 : Nat) : Int) by omega)
                    go_region_held3 (fun w' => w'.cell? ⟨b, o + k * 3, none⟩ = some (.int .i64 at_) ∧ w'.cell? ⟨b, o + k * 3 + 1, none⟩ = some (.int .i64 D) ∧ w'.cell? ⟨b, o + k * 3 + 2, none⟩ = some (.slice A' len cap'))
                      (first | (simp [go_sem, hb, hc0, hc1, hc2]; done))
                      (first | (go_at_call 12; refine (line_any _ _ _ _ _ _ _ hxl ha hlen (by omega)).mono ?_; rintro e w' ⟨rfl, m', rfl⟩))
                    go_wp2_with fail
                    go_meet
                    unfold backV
                    rw [H0.out]
                    exact ⟨rfl, rfl, by repeat' first | exact Grows.of _ _ | exact Grows.refl _ | refine Grows.more ?_ _ | refine Grows.alloc ?_ _ | refine Grows.drew ?_⟩
                  · have hmk := make_empties D (by omega)
                    have H0 := Lib.hid (show min (max (D : Int) 0) 1000 = (D : Int) by omega)
                    go_region_held3 (fun w' => w'.cell? ⟨b, o + k * 3, none⟩ = some (.int .i64 at_) ∧ w'.cell? ⟨b, o + k * 3 + 1, none⟩ = some (.int .i64 D) ∧ w'.cell? ⟨b, o + k * 3 + 2, none⟩ = some (.slice A' len cap'))
                      (first | (simp [go_sem, hb, hc0, hc1, hc2]; done))
                      (first | (go_at_call 12; refine (line_any _ _ _ _ _ _ _ hxl ha hlen (by omega)).mono ?_; rintro e w' ⟨rfl, m', rfl⟩))
                    go_wp2_with fail
                    go_meet
                    unfold backV
                    rw [H0.out]
                    exact ⟨rfl, rfl, by repeat' first | exact Grows.of _ _ | exact Grows.refl _ | refine Grows.more ?_ _ | refine Grows.alloc ?_ _ | refine Grows.drew ?_⟩
              case rest =>
                obtain ⟨rfl, rfl, m5, rfl⟩ := hcut
                have hbk := Lib.hid (backV_back (a[j]'(by omega)) at_ del len)
                have hsome := Lib.hid (lineV_some (a[j]'(by omega)) at_ del len)
                clear m4 hlnone
                go_upto_region 15 with fail
                go_cut [10, 11, 12, 115] (fun v10 v11 v12 v wx => v10 = .bool (lineV (a[j]'(by omega)) at_ del len).2 ∧ v11 = .int .i64 (backV (a[j]'(by omega)) at_ del len).1 ∧ v12 = .bool (backV (a[j]'(by omega)) at_ del len).2 ∧ v = .bool false ∧ wx = more ((more ((w.alloc (.cells (MA ms) 23)).alloc (.cells (MA a) 23)) m1).alloc (.cells (MA (shiftV a at_ del len)) 23)) m5)
                case first =>
                  by_cases hok : (lineV (a[j]'(by omega)) at_ del len).2 = true
                  · obtain ⟨_, _, hpos⟩ := hsome.out hok
                    by_cases hbig : 1000 < del
                    · go_wp2_with fail
                      go_meet
                      exact ⟨by first | rfl | rw [hok], by first | rfl | rw [hback] | rw [hne], by first | rfl | rw [hback] | rw [his], rfl, rfl⟩
                    · have hle : del ≤ 1000 := by omega
                      by_cases hsm : (a[j]'(by omega)) < 1099511627776
                      · have hback := hbk.out hok hx ha hle hs100 hsm
                        go_wp2_with fail
                        go_meet
                        exact ⟨by first | rfl | rw [hok], by first | rfl | rw [hback] | rw [hne], by first | rfl | rw [hback] | rw [his], rfl, rfl⟩
                      · by_cases his : (backV (a[j]'(by omega)) at_ del len).2 = true
                        · by_cases hne : (backV (a[j]'(by omega)) at_ del len).1 = (a[j]'(by omega))
                          · go_wp2_with fail
                            go_meet
                            exact ⟨by first | rfl | rw [hok], by first | rfl | rw [hback] | rw [hne], by first | rfl | rw [hback] | rw [his], rfl, rfl⟩
                          · have hne : ((backV (a[j]'(by omega)) at_ del len).1 != (a[j]'(by omega))) = true := by simpa using hne
                            go_wp2_with fail
                            go_meet
                            exact ⟨by first | rfl | rw [hok], by first | rfl | rw [hback] | rw [hne], by first | rfl | rw [hback] | rw [his], rfl, rfl⟩
                        · have his : (backV (a[j]'(by omega)) at_ del len).2 = false := by simpa using his
                          go_wp2_with fail
                          go_meet
                          exact ⟨by first | rfl | rw [hok], by first | rfl | rw [hback] | rw [hne], by first | rfl | rw [hback] | rw [his], rfl, rfl⟩
                  · have hok : (lineV (a[j]'(by omega)) at_ del len).2 = false := by simpa using hok
                    go_wp2_with fail
                    go_meet
                    exact ⟨by first | rfl | rw [hok], by first | rfl | rw [hback] | rw [hne], by first | rfl | rw [hback] | rw [his], rfl, rfl⟩
                case rest =>
                  obtain ⟨rfl, rfl, rfl, rfl, rfl⟩ := hcut
                  go_wp2_with fail
                  exact ⟨⟨j + 1, by omega, by go_num, Grows.of _ _⟩, by simp [intOf]; omega⟩
          · go_wp2_with fail
            refine ⟨⟨k + 1, by omega, by go_num, ?_⟩, by simp [intOf]; omega⟩
            rw [H.out]
            exact ((Grows.of _ _).alloc _).more _
    · have hkL : k = L.length := by omega
      subst hkL
      rw [List.take_length]
      have hlL := hlenA L
      go_wp2_with fail
      refine region_grows (by kernel_rfl) (by kernel_rfl) ?_
      repeat (go_big_quiet_step (first | (go_at_call 16; exact calls_grows (all_any ms L _ _ _ hms hm (hL.grows (by repeat' first | exact Grows.refl _ | refine Grows.more ?_ _ | refine Grows.alloc ?_ _)) hlen hl)) | (go_at_call 7; exact calls_grows (lives_any _))))
      refine wpQuiet_nil ?_
      intro _ hw'
      obtain ⟨m7, rfl⟩ := hw'
      go_wp2_with fail
      go_ret
      exact ⟨rfl, by repeat' first | exact Grows.refl _ | refine Grows.more ?_ _ | refine Grows.alloc ?_ _⟩

theorem marksAll_whole (ms : List Int) (L : List Spl) (A : Option Addr) (cap : Nat) (w : World) (hms : ms.length = 26) (hm : ∀ n ∈ ms, I64 n) (hL : Rd w 3 A L.length (L.flatMap Spl.cells)) (hlen : L.length ≤ 9223372036854775807) (hl : ∀ s ∈ L, s.ok) :
    Calls Try.prog 4 #[.agg (MA ms), .slice A L.length cap] w fun e w' => e = .returned (.bool true) ∧ Grows w w' := by
  by_cases hbey : beyondV L 20 = false
  · exact marksAll_any ms L A cap w hms hm hL hlen hl hbey
  · have hbey : beyondV L 20 = true := by simpa using hbey
    go_enter Try.func4, Try.ntmps4
    go_wp2_with fail
    (with_reducible refine (beyond_any L A cap 20 _ (hL.grows ((Grows.refl _).alloc _)) hlen (fun s hs => (hl s hs).len_le)).mono ?_)
    rw [hbey]
    rintro e w' ⟨rfl, rfl⟩
    go_wp2_with fail
    (with_reducible refine (lives_any _).mono ?_); rintro e w' ⟨rfl, m', rfl⟩
    go_wp2_with fail
    go_ret
    exact ⟨rfl, by repeat' first | exact Grows.refl _ | refine Grows.more ?_ _ | refine Grows.alloc ?_ _⟩

end Go.Proofs.Ythmfhcnminkhaaa
