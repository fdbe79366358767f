/-
  The law MatchTimes, walked.
-/
import Derived.Test.YtnjagecmhdagkaaDoorPk38
import Derived.Test.YtnjagecmhdagkaaDoorPqMatchTimesHolds45
import Derived.Test.YtnjagecmhdagkaaDoorPqMatchTimesHolds46
set_option linter.unusedSimpArgs false
set_option linter.unusedVariables false
namespace Go.Proofs.YtnjagecmhdagkaaDoor
open Go.RowKit

attribute [local go_sem ↓] ldSp_eq stSp_eq zeroSp bldSp_eq
attribute [local go_sem] loadSp loadSp_if storeSp storeSp_if spC_one bldSp_run eq_two
/-- The pattern's end: up to how often. -/
def optT (m k : Nat) : Bool → Option Nat
  | true => none
  | false => some (m + k)
set_option maxRecDepth 100000 in
set_option maxHeartbeats 4000000 in
theorem match_times (x y z : Nat) (op : Bool) (w : World) (hw : Sane w) (htz : TzAt w) (hx : x ≤ 255) (hy : y ≤ 255) (hz : z ≤ 255) :
    Calls Tryd.prog 7 #[.agg #[.int .u8 x, .int .u8 y], .int .u8 z, .bool op] w fun e w' => e = .returned (.bool true) ∧ Grows w w' := by
  have HW := Lib.hid hw
  have HTZ := Lib.hid htz
  clear hw htz
  have m1 : Int.tmod (x : Int) 41 = ((x % 41 : Nat) : Int) := by rw [Int.tmod_eq_emod_of_nonneg (by omega)]; rfl
  have m2 : Int.tmod (y : Int) 41 = ((y % 41 : Nat) : Int) := by rw [Int.tmod_eq_emod_of_nonneg (by omega)]; rfl
  have m3 : Int.tmod (z : Int) 61 = ((z % 61 : Nat) : Int) := by rw [Int.tmod_eq_emod_of_nonneg (by omega)]; rfl
  obtain ⟨m, hm⟩ : ∃ m, x % 41 = m := ⟨_, rfl⟩
  obtain ⟨k, hk⟩ : ∃ k, y % 41 = k := ⟨_, rfl⟩
  obtain ⟨n, hn⟩ : ∃ n, z % 61 = n := ⟨_, rfl⟩
  have hm9 : m ≤ 40 := by omega
  have hk9 : k ≤ 40 := by omega
  have hn9 : n ≤ 60 := by omega
  rw [hm] at m1
  rw [hk] at m2
  rw [hn] at m3
  have hg1 : Grows w (w.alloc (.cells #[.int .u8 x, .int .u8 y] 43)) := (Grows.refl _).alloc _
  have hb1 : blk (w.alloc (.cells #[.int .u8 x, .int .u8 y] 43)) w.heap.size = #[.int .u8 x, .int .u8 y] := blk_alloc_at _ _ _ _ rfl
  have HG1 := Lib.hid hg1
  clear hm hk hn hg1
  go_enter Tryd.func7, Tryd.ntmps7
  go_upto_region 1 with fail
  obtain ⟨bX, hbX⟩ : ∃ z, z = w.heap.size := ⟨_, rfl⟩
  rw [← hbX] at hb1 ⊢
  clear hbX
  generalize w.alloc (.cells #[.int .u8 x, .int .u8 y] 43) = w1 at *
  have c0 : w1.cell? ⟨bX, 0, none⟩ = some (.int .u8 x) := Blk.cell hb1 (by simp) 0
  have c1 : w1.cell? ⟨bX, 1, none⟩ = some (.int .u8 y) := Blk.cell hb1 (by simp) 1
  have iX := Blk.inHeap hb1 (by simp)
  clear hb1
  go_quiet (fail)
  clear m1 m2 m3 c0 c1 iX
  have HT0 : ∀ i, tx (List.replicate i 120) ++ (⟨#[120]⟩ : ByteArray) = tx (List.replicate (i + 1) 120) := fun i => by
    rw [show (⟨#[120]⟩ : ByteArray) = tx [120] from rfl, tx_append, ← List.replicate_succ']
  have HT := Lib.hid HT0
  clear HT0
  go_wp2_with fail
  go_loopg [10, 11] n (fun q v10 v11 wr => ∃ i : Nat, i ≤ n ∧ q + i = n ∧ v10 = .string (tx (List.replicate i 120)) ∧ v11 = .int .i64 i ∧ Grows w wr)
  case atStart => exact ⟨0, by omega, by omega, rfl, rfl, by repeat' first | exact HG1.out | exact Grows.refl _ | refine Grows.drewN ?_ _ | refine Grows.drew ?_⟩
  case round =>
    obtain ⟨i, hi, hq, rfl, rfl, hg⟩ := hrel
    have HQ := Lib.hid hq
    have HG := Lib.hid hg
    clear hq hg
    by_cases hin : i < n
    · have i1 : (i : Int) < (n : Int) := by omega
      have hcat := HT.out i
      have hll : (List.replicate i (120 : UInt8)).length ≤ 60 := by simp; omega
      go_wp2_with fail
      go_roundg (gk - 1)
      case measure => have := HQ.out; omega
      case rel => exact ⟨i + 1, by omega, by have := HQ.out; omega, rfl, by go_num, HG.out⟩
    · have i1 : ¬ (i : Int) < (n : Int) := by omega
      obtain rfl : i = n := by omega
      have hcall := num10_any m wr (by omega)
      have hd1 := digitsV_len m (by omega)
      have k1 : (⟨#[120, 92, 123]⟩ : ByteArray) ++ tx (digitsV m) = tx ([120, 92, 123] ++ digitsV m) := tx_append [120, 92, 123] _
      have k2 : tx ([120, 92, 123] ++ digitsV m) ++ (⟨#[44, 92, 125]⟩ : ByteArray) = tx (tmP m none) := by rw [show (⟨#[44, 92, 125]⟩ : ByteArray) = tx [44, 92, 125] from rfl, tx_append]; simp [tmP]
      have l1 : ([120, 92, 123] ++ digitsV m).length ≤ 6 := by simp; omega
      go_wp2_with fail
      (with_reducible refine hcall.mono ?_)
      rintro e9 w2 ⟨rfl, hg2⟩
      have HG2 := Lib.hid (HG.out.trans hg2)
      clear hcall hg2
      go_upto_if 40 with fail
      go_cut [12, 13] (fun v12 v13 wx => v12 = .string (tx (tmP m (optT m k op))) ∧ v13 = .int .i64 (mostT i (optT m k op) : Nat) ∧ Grows w wx)
      case first =>
        cases op with
        | true =>
          go_wp2_with fail
          go_meet
          exact ⟨rfl, rfl, HG2.out⟩
        | false =>
          have hcall := num10_any m w2 (by omega)
          have hd2 := digitsV_len (m + k) (by omega)
          have l2 : ([120, 92, 123] ++ digitsV m ++ [44]).length ≤ 7 := by simp; omega
          have l3 : ([120, 92, 123] ++ digitsV m ++ [44] ++ digitsV (m + k)).length ≤ 10 := by simp; omega
          have hmin : min (i : Int) ((m : Int) + (k : Int)) = ((min i (m + k) : Nat) : Int) := by omega
          go_wp2_with fail
          (with_reducible refine hcall.mono ?_)
          rintro e9 w3 ⟨rfl, hg3⟩
          have hcall2 := num10_any (m + k) w3 (by omega)
          rw [Int.natCast_add] at hcall2
          have HG3 := Lib.hid (HG2.out.trans hg3)
          clear hcall hg3
          go_wp2_with fail
          (with_reducible refine hcall2.mono ?_)
          rintro e9 w4 ⟨rfl, hg4⟩
          have HG4 := Lib.hid (HG3.out.trans hg4)
          clear hcall2 hg4
          go_wp2_with fail
          go_meet
          refine ⟨?_, rfl, HG4.out⟩
          rw [show (⟨#[44]⟩ : ByteArray) = tx [44] from rfl, show (⟨#[92, 125]⟩ : ByteArray) = tx [92, 125] from rfl, tx_append, tx_append, tx_append]
          simp [tmP, optT]
      case rest =>
        obtain ⟨rfl, rfl, hgc⟩ := hcut
        have HGc := Lib.hid hgc
        have ho : ∀ b, optT m k op = some b → m ≤ b ∧ b ≤ 255 := fun b h => by
          cases op with
          | true => cases h
          | false => injection h with h; omega
        have HO := Lib.hid ho
        have hlen := tmP_len m (optT m k op) (by omega) ho
        obtain ⟨o, hoe⟩ : ∃ o, optT m k op = o := ⟨_, rfl⟩
        rw [hoe] at HO hlen ⊢
        have hat := at_any (tmP m o) (List.replicate i 120) 0 (by omega) (by simp; omega) wc (HW.out.grows hgc) (HTZ.out.grows hgc)
        obtain ⟨G, B, hGB⟩ : ∃ G B, atR (tmP m o) (List.replicate i 120) 0 = (G, B) := ⟨_, _, rfl⟩
        rw [hGB] at hat
        have HGB := Lib.hid hGB
        clear hgc ho hlen hoe hGB k1 k2 l1 hd1
        go_wp2_with fail
        (with_reducible refine hat.mono ?_)
        rintro e9 w3 ⟨⟨rfl, hl⟩, hg3⟩
        have hgs : (spC G).size = 20 := by rw [spC_size]; exact hl
        have hz20 : (spC spZero).size = 20 := by rw [spC_size]; rfl
        have hov : over (spC spZero) 0 (spC G) = spC G := over_all (by omega)
        have hg4 : Grows w3 (w3.alloc (.cells (spC G) 23)) := (Grows.refl _).alloc _
        have HG4 := Lib.hid ((HGc.out.trans hg3).trans hg4)
        have hb4 : blk (w3.alloc (.cells (spC G) 23)) w3.heap.size = spC G := blk_alloc_at _ _ _ _ rfl
        clear hat hg3 hg4
        go_upto_region 13 with fail
        obtain ⟨bM, hbM⟩ : ∃ z, z = w3.heap.size := ⟨_, rfl⟩
        rw [← hbM] at hb4 ⊢
        clear hbM hov
        generalize w3.alloc (.cells (spC G) 23) = w4 at *
        have cc0 := (Blk.cell hb4 (by omega) 0).trans (spC_get (by omega))
        have cc1 := (Blk.cell hb4 (by omega) 1).trans (spC_get (by omega))
        have iM := Blk.inHeap hb4 (by omega)
        have hdo := does_any w4 (HW.out.grows HG4.out) (HTZ.out.grows HG4.out)
        clear hb4 hgs hz20
        by_cases hmn : m ≤ i
        · obtain ⟨g, q1, q2, q3⟩ := tm_yes (n := i) (by omega) HO.out hmn
          rw [HGB.out] at q1
          injection q1 with q1 q4
          subst q1
          subst q4
          rw [q2] at cc0
          rw [q3] at cc1
          have hmi : (m : Int) ≤ (i : Int) := by omega
          have hmd : decide (m ≤ i) = true := decide_eq_true hmn
          clear q2 q3 HGB
          generalize mostT i o = mo at *
          go_wp2_with fail
          (with_reducible refine hdo.mono ?_)
          rintro e9 w6 ⟨rfl, hg6⟩
          go_wp2_with fail
          go_ret
          exact ⟨rfl, HG4.out.trans hg6⟩
        · have hno := tm_no (n := i) (by omega) HO.out (by omega)
          rw [HGB.out] at hno
          injection hno with q1 q4
          subst q4
          have hmi : ¬ (m : Int) ≤ (i : Int) := by omega
          have hmd : decide (m ≤ i) = false := decide_eq_false hmn
          clear q1 HGB
          go_wp2_with fail
          (with_reducible refine hdo.mono ?_)
          rintro e9 w6 ⟨rfl, hg6⟩
          go_wp2_with fail
          go_ret
          exact ⟨rfl, HG4.out.trans hg6⟩
end Go.Proofs.YtnjagecmhdagkaaDoor
