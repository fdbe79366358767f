/-
  The law MatchRow, walked.
-/
import Derived.Test.YtnjagecmhdagkaaDoorPqMatchRowHolds48
set_option linter.unusedSimpArgs false
set_option linter.unusedVariables false
namespace Go.Proofs.YtnjagecmhdagkaaDoor
open Go.RowKit

attribute [local go_sem ↓] ldSp_eq stSp_eq zeroSp bldSp_eq
attribute [local go_sem] loadSp loadSp_if storeSp storeSp_if spC_one bldSp_run eq_two
set_option maxRecDepth 100000 in
set_option maxHeartbeats 8000000 in
theorem match_row (A1 : Option Addr) (c1 : Nat) (l : List Atom3) (A2 : Option Addr) (c2 : Nat) (hs : List Int) (x : Nat) (w : World) (hw : Sane w) (htz : TzAt w) (h1 : CameAtoms w A1 c1 l) (h2 : CameBytes w A2 c2 hs) (hx : x ≤ 255) :
    Calls Tryd.prog 4 #[.slice A1 l.length c1, .slice A2 hs.length c2, .int .u8 x] w fun e w' => e = .returned (.bool true) ∧ Grows w w' := by
  have HW := Lib.hid hw
  have HTZ := Lib.hid htz
  have H1 := Lib.hid h1
  have H2 := Lib.hid h2
  have hl1 := h1.len
  have hl2 := h2.len
  clear hw htz h1 h2
  go_enter Tryd.func4, Tryd.ntmps4
  by_cases k1 : 12 < l.length
  · have k1i : (12 : Int) < (l.length : Int) := by omega
    go_wp2_with fail
    go_ret
    exact ⟨rfl, Grows.refl _⟩
  have k1i : ¬ (12 : Int) < (l.length : Int) := by omega
  have k1b : decide (12 < l.length) = false := decide_eq_false k1
  by_cases k2 : 24 < hs.length
  · have k2i : (24 : Int) < (hs.length : Int) := by omega
    go_wp2_with fail
    go_ret
    exact ⟨rfl, Grows.refl _⟩
  have k2i : ¬ (24 : Int) < (hs.length : Int) := by omega
  have k2b : decide (24 < hs.length) = false := decide_eq_false k2
  clear hl1 hl2
  have hcall := txt_any A2 c2 hs w H2.out (by omega)
  go_wp2_with fail
  (with_reducible refine hcall.mono ?_)
  rintro e9 w1 ⟨rfl, hg1⟩
  have HG1 := Lib.hid hg1
  have hcall2 := patT_any A1 c1 l w1 (H1.out.grows hg1) (by omega)
  have ls := txtV_len hs
  generalize txtV hs = s at *
  have ls9 : s.length ≤ 24 := by omega
  have lp9 : (patA (rowV3 l)).length ≤ 24 := by have := patA_len (rowV3 l); rw [rowV3_len] at this; omega
  have lq9 : partsA (rowV3 l) ≤ 24 := by have := partsA_le (rowV3 l); rw [rowV3_len] at this; omega
  have ll9 : l.length ≤ 12 := by omega
  have hm : Int.tmod (x : Int) ((s.length : Int) + 2) = ((x % (s.length + 2) : Nat) : Int) := by rw [Int.tmod_eq_emod_of_nonneg (by omega)]; push_cast; rfl
  have hk9 : x % (s.length + 2) < s.length + 2 := Nat.mod_lt _ (by omega)
  obtain ⟨k, hk⟩ : ∃ k, x % (s.length + 2) = k := ⟨_, rfl⟩
  rw [hk] at hm hk9
  clear hcall hg1 k1 k1i k1b k2 k2i k2b ls hk
  go_wp2_with fail
  (with_reducible refine hcall2.mono ?_)
  rintro e9 w2 ⟨rfl, hg2⟩
  have HG2 := Lib.hid (HG1.out.trans hg2)
  have hat := at_any (patA (rowV3 l)) s k (by omega) (by omega) w2 (HW.out.grows HG2.out) (HTZ.out.grows HG2.out)
  obtain ⟨G, B, hGB⟩ : ∃ G B, atR (patA (rowV3 l)) s k = (G, B) := ⟨_, _, rfl⟩
  rw [hGB] at hat
  have HGB := Lib.hid hGB
  have HLQ := Lib.hid lq9
  clear hcall2 hg2 HG1 hGB hm lq9 lp9
  go_wp2_with fail
  (with_reducible refine hat.mono ?_)
  rintro e9 w3 ⟨⟨rfl, hl⟩, hg3⟩
  have hgs : (spC G).size = 20 := by rw [spC_size]; exact hl
  have hz : (spC spZero).size = 20 := by rw [spC_size]; rfl
  have hov : over (spC spZero) 0 (spC G) = spC G := over_all (by omega)
  have hg4 : Grows w3 (w3.alloc (.cells (spC G) 23)) := (Grows.refl _).alloc _
  have HG4 := Lib.hid ((HG2.out.trans hg3).trans hg4)
  have hb4 : blk (w3.alloc (.cells (spC G) 23)) w3.heap.size = spC G := blk_alloc_at _ _ _ _ rfl
  clear hat hg3 hg4
  go_upto_region 6 with fail
  obtain ⟨bM, hbM⟩ : ∃ z, z = w3.heap.size := ⟨_, rfl⟩
  rw [← hbM] at hb4 ⊢
  clear hbM hov
  generalize w3.alloc (.cells (spC G) 23) = w4 at *
  have HB4 := Lib.hid hb4
  have HGS := Lib.hid hgs
  clear hb4 hgs hz
  go_wp2_with fail
  go_loopg [11, 12] (s.length + 2 - k) (fun q v11 _ wr => ∃ i : Nat, k ≤ i ∧ i ≤ s.length + 1 ∧ q + i = s.length + 2 ∧ v11 = .int .i64 i ∧ Grows w4 wr ∧ ∀ b, k ≤ b → b < i → ∀ e, b ≤ e → e ≤ s.length → ¬ FitP s (rowV3 l) b e)
  case atStart => exact ⟨k, by omega, by omega, by omega, rfl, Grows.refl _, fun b h1 h2 => by omega⟩
  case round =>
    obtain ⟨i, hi1, hi2, hq, rfl, hg, hno⟩ := hrel
    obtain ⟨wi, hwi⟩ : ∃ z, z = wr := ⟨_, rfl⟩
    subst hwi
    obtain ⟨gi, hgi⟩ : ∃ z, z = gk := ⟨_, rfl⟩
    subst hgi
    have HQ := Lib.hid hq
    have HNO := Lib.hid hno
    have HGi := Lib.hid hg
    clear hq hno hg
    by_cases hil : i ≤ s.length
    · have i1 : (i : Int) ≤ (s.length : Int) := by omega
      go_wp2_with fail
      go_loopg [12] (s.length + 1) (fun q v12 wr => ∃ j : Nat, q = j ∧ i ≤ j ∧ j ≤ s.length + 1 ∧ v12 = .int .i64 ((j : Int) - 1) ∧ Grows wi wr ∧ ∀ e, j ≤ e → e ≤ s.length → ¬ FitP s (rowV3 l) i e)
      case atStart => exact ⟨s.length + 1, rfl, by omega, by omega, by go_num, Grows.refl _, fun e h1 h2 => by omega⟩
      case round =>
        obtain ⟨j, hqj, hj1, hj2, rfl, hg, hnb⟩ := hrel
        have HNB := Lib.hid hnb
        have HQJ := Lib.hid hqj
        have HGj := Lib.hid (HGi.out.trans hg)
        have HGw := Lib.hid hg
        clear hnb hqj hg
        by_cases hji : i < j
        · obtain ⟨j0, rfl⟩ : ∃ j0, j = j0 + 1 := ⟨j - 1, by omega⟩
          have hjj : (((j0 + 1 : Nat) : Int) - 1) = (j0 : Int) := by omega
          rw [hjj]
          have j1 : (i : Int) ≤ (j0 : Int) := by omega
          have j9 : j0 ≤ s.length := by omega
          have j8 : i ≤ j0 := by omega
          have hx1 : (tx s).extract i j0 = tx ((s.drop i).take (j0 - i)) := tx_mid _ _ _
          have hfit := fit_at (l := rowV3 l) (s := s) j8 j9
          have hcall := fit_any A1 c1 l ((s.drop i).take (j0 - i)) wr (H1.out.grows (HG4.out.trans HGj.out)) (by omega) (by rw [List.length_take, List.length_drop]; omega)
          obtain ⟨F, hF⟩ : ∃ F, fitV (rowV3 l) ((s.drop i).take (j0 - i)) = F := ⟨_, rfl⟩
          rw [hF] at hcall hfit
          have HFIT := Lib.hid hfit
          obtain ⟨wj, hwj⟩ : ∃ z, z = wr := ⟨_, rfl⟩
          subst hwj
          clear hfit hF hjj
          go_wp2_with fail
          (with_reducible refine hcall.mono ?_)
          rintro e9 w5 ⟨rfl, hg5⟩
          have HG5 := Lib.hid (HGj.out.trans hg5)
          have HG5w := Lib.hid (HGw.out.trans hg5)
          clear hcall hg5
          cases F with
          | true =>
            obtain ⟨g, q1, q2, q3⟩ := rowA_some (rowV3_plain l) (by have := HLQ.out; omega) hi1 j8 j9 HNO.out (HFIT.out.1 rfl) (fun e h1 h2 => HNB.out e (by omega) h1)
            rw [HGB.out] at q1
            injection q1 with q1 q4
            subst q1
            subst q4
            have hb5 := blkG HB4.out (by have := HGS.out; omega) HG5.out
            have cc0 := (Blk.cell hb5 (by have := HGS.out; omega) 0).trans (spC_get (by omega))
            have cc1 := (Blk.cell hb5 (by have := HGS.out; omega) 1).trans (spC_get (by omega))
            have iM := Blk.inHeap hb5 (by have := HGS.out; omega)
            have hdo := does_any w5 (HW.out.grows (HG4.out.trans HG5.out)) (HTZ.out.grows (HG4.out.trans HG5.out))
            rw [q2] at cc0
            rw [q3] at cc1
            clear q2 q3 HNO HNB HFIT hb5 hx1 HGB
            go_wp2_with fail
            (with_reducible refine hdo.mono ?_)
            rintro e9 w6 ⟨rfl, hg6⟩
            go_wp2_with fail
            go_ret
            exact ⟨rfl, (HG4.out.trans HG5.out).trans hg6⟩
          | false =>
            clear hx1
            go_wp2_with fail
            go_roundg (gk - 1)
            case measure => have := HQJ.out; omega
            case rel => exact ⟨j0, by have := HQJ.out; omega, j8, by omega, by go_num, HG5w.out, fun e h1 h2 => by
              rcases Nat.lt_or_ge j0 e with h | h
              · exact HNB.out e h h2
              · obtain rfl : e = j0 := by omega
                exact fun h => absurd (HFIT.out.2 h) (by decide)⟩
        · obtain rfl : j = i := by omega
          have j1 : ¬ (j : Int) ≤ (j : Int) - 1 := by omega
          go_wp2_with fail
          go_roundg (gi - 1)
          case measure => have := HQ.out; omega
          case rel => exact ⟨j + 1, by omega, by omega, by have := HQ.out; omega, by go_num, HGj.out, fun b h1 h2 => by
            rcases Nat.lt_or_ge b j with h | h
            · exact HNO.out b h1 h
            · obtain rfl : b = j := by omega
              exact HNB.out⟩
    · have i1 : ¬ (i : Int) ≤ (s.length : Int) := by omega
      have hnone := rowA_none (rowV3_plain l) (by have := HLQ.out; omega) (s := s) (k := k) (fun b h1 e h2 h3 => HNO.out b h1 (by omega) e h2 h3)
      rw [HGB.out] at hnone
      injection hnone with q1 q2
      subst q2
      have hdo := does_any wi (HW.out.grows (HG4.out.trans HGi.out)) (HTZ.out.grows (HG4.out.trans HGi.out))
      clear q1 HNO HGB
      go_wp2_with fail
      (with_reducible refine hdo.mono ?_)
      rintro e9 w6 ⟨rfl, hg6⟩
      go_wp2_with fail
      go_ret
      exact ⟨rfl, (HG4.out.trans HGi.out).trans hg6⟩
end Go.Proofs.YtnjagecmhdagkaaDoor
