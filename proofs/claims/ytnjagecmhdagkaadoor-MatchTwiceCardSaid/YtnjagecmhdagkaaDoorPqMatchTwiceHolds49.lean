/-
  The law MatchTwice, walked.
-/
import Derived.Test.YtnjagecmhdagkaaDoorPqMatchTwiceHolds47
import Derived.Test.YtnjagecmhdagkaaDoorPqMatchTwiceHolds48
set_option linter.unusedSimpArgs false
set_option linter.unusedVariables false
namespace Go.Proofs.YtnjagecmhdagkaaDoor
open Go.RowKit

attribute [local go_sem ↓] ldSp_eq stSp_eq zeroSp bldSp_eq
attribute [local go_sem] loadSp loadSp_if storeSp storeSp_if spC_one bldSp_run eq_two
set_option maxRecDepth 3000 in
theorem at_twP (s : List UInt8) (hs : s.length ≤ 60000) (w : World) (hw : Sane w) (htz : TzAt w) :
    Calls Tryd.prog 13 #[.string ⟨#[92, 40, 46, 46, 42, 92, 41, 92, 49]⟩, .string (tx s), .int .i64 0] w fun e w' => (e = .returned (.tuple #[spV (atR twP s 0).1, .bool (atR twP s 0).2]) ∧ (atR twP s 0).1.length = 20) ∧ Grows w w' := at_any twP s 0 (by decide) hs w hw htz
set_option maxRecDepth 100000 in
set_option maxHeartbeats 4000000 in
theorem match_twice (A1 : Option Addr) (c1 : Nat) (ns : List Int) (w : World) (hw : Sane w) (htz : TzAt w) (h1 : CameBytes w A1 c1 ns) :
    Calls Tryd.prog 8 #[.slice A1 ns.length c1] w fun e w' => e = .returned (.bool true) ∧ Grows w w' := by
  have HW := Lib.hid hw
  have HTZ := Lib.hid htz
  have H1 := Lib.hid h1
  have hl1 := h1.len
  clear hw htz h1
  go_enter Tryd.func8, Tryd.ntmps8
  by_cases k1 : 16 < ns.length
  · have k1i : (16 : Int) < (ns.length : Int) := by omega
    go_wp2_with fail
    go_ret
    exact ⟨rfl, Grows.refl _⟩
  have k1i : ¬ (16 : Int) < (ns.length : Int) := by omega
  clear hl1
  have hcall := txt_any A1 c1 ns w H1.out (by omega)
  go_wp2_with fail
  (with_reducible refine hcall.mono ?_)
  rintro e9 w2 ⟨rfl, hg1⟩
  have HG2 := Lib.hid hg1
  clear hcall hg1
  have ls := txtV_len ns
  generalize txtV ns = s at *
  have ls9 : s.length ≤ 16 := by omega
  have hat := at_twP s (by omega) w2 (HW.out.grows HG2.out) (HTZ.out.grows HG2.out)
  have htw := at_tw (s := s) (by omega)
  obtain ⟨G, B, hGB⟩ : ∃ G B, atR twP s 0 = (G, B) := ⟨_, _, rfl⟩
  rw [hGB] at hat htw
  have HTW := Lib.hid htw
  clear k1 k1i ls hGB htw
  go_wp2_with fail
  (with_reducible refine hat.mono ?_)
  rintro e9 w3 ⟨⟨rfl, hl⟩, hg3⟩
  have hgs : (spC G).size = 20 := by rw [spC_size]; exact hl
  have hz : (spC spZero).size = 20 := by rw [spC_size]; rfl
  have hov : over (spC spZero) 0 (spC G) = spC G := over_all (by omega)
  have hg4 : Grows w3 (w3.alloc (.cells (spC G) 23)) := (Grows.refl _).alloc _
  have HG4 := Lib.hid ((HG2.out.trans hg3).trans hg4)
  have hb4 : blk (w3.alloc (.cells (spC G) 23)) w3.heap.size = spC G := blk_alloc_at _ _ _ _ rfl
  clear hat hg3 hg4
  go_upto_region 5 with fail
  obtain ⟨bM, hbM⟩ : ∃ z, z = w3.heap.size := ⟨_, rfl⟩
  rw [← hbM] at hb4 ⊢
  clear hbM hov
  generalize w3.alloc (.cells (spC G) 23) = w4 at *
  have cc0 := (Blk.cell hb4 (by omega) 0).trans (spC_get (by omega))
  have cc1 := (Blk.cell hb4 (by omega) 1).trans (spC_get (by omega))
  have cc2 := (Blk.cell hb4 (by omega) 2).trans (spC_get (by omega))
  have cc3 := (Blk.cell hb4 (by omega) 3).trans (spC_get (by omega))
  have iM := Blk.inHeap hb4 (by omega)
  have hdo : ∀ W, Grows w4 W → Calls Tryd.prog 11 #[] W fun e w' => e = .returned (.bool true) ∧ Grows W w' := fun W h => does_any W (HW.out.grows (HG4.out.trans h)) (HTZ.out.grows (HG4.out.trans h))
  have HC := Lib.hid (And.intro (And.intro cc0 cc1) (And.intro cc2 cc3))
  have HB4 := Lib.hid hb4
  have HGS := Lib.hid hgs
  clear hb4 hgs hz cc0 cc1 cc2 cc3 iM
  go_wp2_with fail
  go_loopg [6, 7] (s.length + 1) (fun q v6 _ wr => ∃ i : Nat, i ≤ s.length ∧ q + i = s.length + 1 ∧ v6 = .int .i64 i ∧ Grows w4 wr ∧ ∀ b m, b < i → 0 < m → ¬ Tw s b m)
  case atStart => exact ⟨0, by omega, by omega, rfl, Grows.refl _, fun b m h1 h2 => by omega⟩
  case round =>
    obtain ⟨i, hi, hq, rfl, hg, hno⟩ := hrel
    obtain ⟨wi, hwi⟩ : ∃ z, z = wr := ⟨_, rfl⟩
    subst hwi
    have HGi := Lib.hid hg
    obtain ⟨gi, hgi⟩ : ∃ z, z = gk := ⟨_, rfl⟩
    subst hgi
    have HQ := Lib.hid hq
    have HNO := Lib.hid hno
    clear hq hno hg
    by_cases hil : i < s.length
    · have i1 : (i : Int) < (s.length : Int) := by omega
      have hd : Int.tdiv ((s.length : Int) - (i : Int)) 2 = (((s.length - i) / 2 : Nat) : Int) := by rw [Int.tdiv_eq_ediv_of_nonneg (by omega)]; omega
      have hd2 : ((s.length : Int) - (i : Int)) / 2 = (((s.length - i) / 2 : Nat) : Int) := by omega
      have hn9 : (s.length - i) / 2 ≤ 8 := by omega
      have hn8 : 2 * ((s.length - i) / 2) + i ≤ s.length := by omega
      have hbig : ∀ m, (s.length - i) / 2 < m → ¬ Tw s i m := fun m hm h => by have := h.1; omega
      generalize (s.length - i) / 2 = n0 at *
      go_wp2_with fail
      go_loopg [7] n0 (fun q v7 wr => ∃ n : Nat, q = n ∧ n ≤ n0 ∧ v7 = .int .i64 n ∧ Grows w4 wr ∧ ∀ m, n < m → ¬ Tw s i m)
      case atStart => exact ⟨n0, rfl, Nat.le_refl _, rfl, HGi.out, hbig⟩
      case round =>
        obtain ⟨n, hqn, hn, rfl, hg, hnb⟩ := hrel
        have HGn := Lib.hid hg
        have HNB := Lib.hid hnb
        have HQN := Lib.hid hqn
        clear hnb hqn hbig hd hd2 hg
        by_cases hn0 : 0 < n
        · have n1 : (0 : Int) < (n : Int) := by omega
          have hx1 : (tx s).extract i (i + n) = tx ((s.drop i).take n) := by rw [tx_mid, Nat.add_sub_cancel_left]
          have hx2 : (tx s).extract (i + n) (i + 2 * n) = tx ((s.drop (i + n)).take n) := by rw [tx_mid, show i + 2 * n - (i + n) = n by omega]
          have hlb1 : i + n ≤ s.length := by omega
          have hlb2 : i + 2 * n ≤ s.length := by omega
          go_upto_region 11 with fail
          by_cases he : (s.drop i).take n = (s.drop (i + n)).take n
          · have htw : Tw s i n := ⟨by omega, he⟩
            have hG : G = twG i n ∧ B = true := by
              rcases HTW.out with ⟨_, h2⟩ | ⟨a, m, h3, h4, h5, h6, h7⟩
              · exact absurd htw (h2 i n hn0)
              · have ha : a = i := by
                  rcases Nat.lt_trichotomy a i with h | h | h
                  · exact absurd h5 (HNO.out a m h h4)
                  · exact h
                  · exact absurd htw (h7 i n h hn0)
                subst ha
                have hmn : m = n := by
                  rcases Nat.lt_trichotomy m n with h | h | h
                  · exact absurd htw (h6 n h)
                  · exact h
                  · exact absurd h5 (HNB.out m h)
                subst hmn
                injection h3 with h8 h9
                exact ⟨h8, h9⟩
            obtain ⟨rfl, rfl⟩ := hG
            obtain ⟨q0, q1, q2, q3⟩ := twG_at i n
            have cc0 := cellG HC.out.1.1 HGn.out
            have cc1 := cellG HC.out.1.2 HGn.out
            have cc2 := cellG HC.out.2.1 HGn.out
            have cc3 := cellG HC.out.2.2 HGn.out
            have iM := Blk.inHeap (blkG HB4.out (by have := HGS.out; omega) HGn.out) (by have := HGS.out; omega)
            rw [q0] at cc0
            rw [q1] at cc1
            rw [q2] at cc2
            rw [q3] at cc3
            rw [← he] at hx2
            clear HTW HNO HNB q0 q1 q2 q3 htw he
            go_quiet (fail)
            go_wp2_with fail
            (with_reducible refine (hdo _ (by repeat' first | exact HGn.out | exact Grows.refl _ | refine Grows.drewN ?_ _ | refine Grows.drew ?_)).mono ?_)
            rintro e9 w6 ⟨rfl, hg6⟩
            go_wp2_with fail
            go_ret
            exact ⟨rfl, (HG4.out.trans (by repeat' first | exact HGn.out | exact Grows.refl _ | refine Grows.drewN ?_ _ | refine Grows.drew ?_)).trans hg6⟩
          · have hne : ((tx ((s.drop i).take n)).toList == (tx ((s.drop (i + n)).take n)).toList) = false := str_ne fun h => he (tx_inj h)
            have HE := Lib.hid he
            clear he
            go_quiet (fail)
            go_wp2_with fail
            go_roundg (gk - 1)
            case measure => have := HQN.out; omega
            case rel => exact ⟨n - 1, by have := HQN.out; omega, by omega, by go_num, (by repeat' first | exact HGn.out | exact Grows.refl _ | refine Grows.drewN ?_ _ | refine Grows.drew ?_), fun m hm => by
              rcases Nat.lt_or_ge n m with h | h
              · exact HNB.out m h
              · obtain rfl : m = n := by omega
                exact fun h => HE.out h.2⟩
        · have n1 : ¬ (0 : Int) < (n : Int) := by omega
          go_wp2_with fail
          go_roundg (gi - 1)
          case measure => have := HQ.out; omega
          case rel => exact ⟨i + 1, by omega, by have := HQ.out; omega, by go_num, HGn.out, fun b m hb hm => by
            rcases Nat.lt_or_ge b i with h | h
            · exact HNO.out b m h hm
            · obtain rfl : b = i := by omega
              exact HNB.out m (by omega)⟩
    · have i1 : ¬ (i : Int) < (s.length : Int) := by omega
      have hB : B = false := by
        rcases HTW.out with ⟨h1, _⟩ | ⟨a, m, h3, h4, h5, h6, h7⟩
        · injection h1
        · exact absurd h5 (HNO.out a m (by have := h5.1; omega) h4)
      subst hB
      clear HTW HNO
      go_wp2_with fail
      (with_reducible refine (hdo _ HGi.out).mono ?_)
      rintro e9 w6 ⟨rfl, hg6⟩
      go_wp2_with fail
      go_ret
      exact ⟨rfl, (HG4.out.trans HGi.out).trans hg6⟩
end Go.Proofs.YtnjagecmhdagkaaDoor
