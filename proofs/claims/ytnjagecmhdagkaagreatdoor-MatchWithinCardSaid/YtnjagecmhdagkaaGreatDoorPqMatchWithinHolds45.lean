/-
  The law MatchWithin, walked.
-/
import Derived.Test.YtnjagecmhdagkaaGreatDoorPk40
import Derived.Test.YtnjagecmhdagkaaGreatDoorPqMatchWithinHolds44
namespace Go.Proofs.YtnjagecmhdagkaaGreatDoor
open Go.RowKit

set_option maxRecDepth 3000 in
theorem run_equalIn_array_same2 {P : Program} (w : World) (d : Nat) (t e : TypeId) (n z : Nat) (xs : Array Value) (ht : P.underlying t = some (.array n e)) (hs : ∀ w, (sizeOf e).run P w = .ok z w)
    (hp : ∀ i, i < n → ∃ v, ∀ w, (part e xs (i * z)).run P w = .ok v w ∧ (Op.equalIn d e v v).run P w = .ok true w) :
    (Op.equalIn (d + 1) t (.agg xs) (.agg xs)).run P w = .ok true w := by
  simp only [Op.equalIn, Sem.run_bind, run_underlying ht, Result.andThen_ok, hs]
  rw [Std.Legacy.Range.forIn_eq_forIn_range']
  have hl : ∀ i ∈ List.range' [:n].start [:n].size [:n].step, i < n := by
    intro i hi
    simp [List.mem_range', Std.Legacy.Range.size] at hi
    omega
  generalize List.range' [:n].start [:n].size [:n].step = l at hl
  induction l generalizing w with
  | nil => simp
  | cons i l ih =>
    obtain ⟨v, hv⟩ := hp i (hl i (by simp))
    simp only [List.forIn_cons, Sem.run_bind, (hv _).1, (hv _).2, Result.andThen_ok, Bool.not_true, Bool.false_eq_true, if_false, Sem.run_pure]
    have := ih w (fun j hj => hl j (by simp [hj]))
    simpa using this
set_option maxRecDepth 3000 in
theorem eq_two9 (a b c d : Int) (w : World) : (Op.equalIn 9999 22 (.agg #[.int .i64 a, .int .i64 b]) (.agg #[.int .i64 c, .int .i64 d])).run Tryz.prog w = .ok (a == c && b == d) w := by
  have u3 := Tryz.underlying3
  have a3 := Tryz.isAgg3
  have z3 := Tryz.sizeOf3
  have hi : (Tryz.prog.info? 3).isSome = true := by kernel_rfl
  obtain ⟨i, hi⟩ := Option.isSome_iff_exists.1 hi
  have hc : Tryz.prog.cellsOf 3 = 1 := by kernel_rfl
  rw [show (9999 : Nat) = 9998 + 1 from rfl, run_equalIn_array w 9998 _ _ Tryz.underlying22 hi, hc]
  simp only [show List.range 2 = [0, 1] from rfl, Op.eqItems]
  go_simp
  by_cases h1 : a = c <;> by_cases h2 : b = d <;> simp [h1, h2]
set_option maxRecDepth 3000 in
theorem eq_spans (g : Spn) (hg : g.length = 20) (w : World) : (Op.equalIn 10000 35 (spV g) (spV g)).run Tryz.prog w = .ok true w := by
  refine run_equalIn_array_same2 w 9999 35 22 10 2 (spC g) Tryz.underlying35 (fun w => Tryz.sizeOf22 w) fun i hi => ⟨.agg #[.int .i64 (g.getD (i * 2) 0), .int .i64 (g.getD (i * 2 + 1) 0)], fun w => ⟨?_, ?_⟩⟩
  · have ex : (spC g).extract (i * 2) (i * 2 + 2) = #[.int .i64 (g.getD (i * 2) 0), .int .i64 (g.getD (i * 2 + 1) 0)] := by
      have hs : (spC g).size = 20 := by rw [spC_size]; exact hg
      apply Array.ext_getElem?
      intro j
      rw [Array.getElem?_extract]
      rcases (show j = 0 ∨ j = 1 ∨ 2 ≤ j by omega) with rfl | rfl | hj
      · rw [if_pos (by omega), Nat.add_zero, spC_get (by omega)]; rfl
      · rw [if_pos (by omega), spC_get (by omega)]; rfl
      · rw [if_neg (by omega), Array.getElem?_eq_none (by simpa using hj)]
    have h1 := Tryz.isAgg22 w
    have h2 := Tryz.sizeOf22 w
    unfold part
    simp only [Sem.run_bind, h1, h2, Result.andThen_ok, if_true, Sem.run_pure]
    rw [ex]
  · have := eq_two9 (g.getD (i * 2) 0) (g.getD (i * 2 + 1) 0) (g.getD (i * 2) 0) (g.getD (i * 2 + 1) 0) w
    rw [this]
    simp
set_option maxRecDepth 3000 in
/-- What a match that is none tells. -/
theorem match_no {s : List UInt8} {f : Fr} {k fuel : Int} {g : Spn} {x : Int} (h : matchR s f false k fuel = (g, false, x)) : g = spZero ∧ x = 0 := by
  unfold matchR at h
  split at h
  · simp at h; exact ⟨h.1.symm, h.2.symm⟩
  · simp only [Bool.false_eq_true, if_false] at h
    split at h
    · simp at h; exact ⟨h.1.symm, h.2.symm⟩
    · simp at h
set_option maxRecDepth 3000 in
theorem heavy_60 (p s : List UInt8) (w : World) : Calls Tryz.prog 7 #[.string (tx p), .string (tx s), .int .i64 60] w fun e w' => HeavyPost p s 60 e ∧ Grows w w' := heavy_any p s 60 w (by omega)
attribute [local go_sem ↓] ldSp_eq stSp_eq zeroSp bldSp_eq
attribute [local go_sem] loadSp loadSp_if storeSp storeSp_if spC_one bldSp_run eq_two eq_zero
set_option maxRecDepth 100000 in
set_option maxHeartbeats 8000000 in
theorem match_within (p s : List UInt8) (k : Int) (w : World) (hw : Sane w) (htz : TzAt w) (hk : I64 k) :
    Calls Tryz.prog 6 #[.string (tx p), .string (tx s), .int .i64 k] w fun e w' => e = .returned (.bool true) ∧ Grows w w' := by
  have HW := Lib.hid hw
  have HTZ := Lib.hid htz
  have hcall := heavy_60 p s w
  clear hw htz
  go_enter Tryz.func6, Tryz.ntmps6
  go_wp2_with fail
  (with_reducible refine hcall.mono ?_)
  rintro e9 w1 ⟨⟨H, hH, rfl⟩, hg1⟩
  clear hcall
  cases H with
  | true =>
    go_wp2_with fail
    go_ret
    exact ⟨rfl, hg1⟩
  | false =>
  obtain ⟨hp, hs⟩ := hH rfl
  have HG1 := Lib.hid hg1
  have hdo : ∀ W, Grows w W → Calls Tryz.prog 10 #[] W fun e w' => e = .returned (.bool true) ∧ Grows W w' := fun W h => does_any W (HW.out.grows h) (HTZ.out.grows h)
  have HDO := Lib.hid hdo
  have hcall := bre_parse p w1 (by omega) (HW.out.grows hg1)
  obtain ⟨Y, hY⟩ : ∃ Y, patV p = Y := ⟨_, rfl⟩
  rw [hY] at hcall
  have HY := Lib.hid hY
  clear hH hg1 hdo hY
  go_wp2_with fail
  (with_reducible refine hcall.mono ?_)
  rintro e9 w2 hpost
  clear hcall
  cases Y with
  | none =>
    obtain ⟨rfl, hg2⟩ := hpost
    have HG2 := Lib.hid (HG1.out.trans hg2)
    go_wp2_with fail
    (with_reducible refine (HDO.out _ HG2.out).mono ?_)
    rintro e9 w3 ⟨rfl, hg3⟩
    go_wp2_with fail
    go_ret
    exact ⟨rfl, HG2.out.trans hg3⟩
  | some y =>
  obtain ⟨f, t⟩ := y
  obtain ⟨g, rfl, hre, -, hg2⟩ := hpost
  have HG2 := Lib.hid (HG1.out.trans hg2)
  have HRE := Lib.hid hre
  have href := refs_any hre
  obtain ⟨q1, q2, q3⟩ := patV_nd HY.out
  have HND := Lib.hid (And.intro q1 q3)
  obtain ⟨rf, hrf⟩ : ∃ rf, t.refs = rf := ⟨_, rfl⟩
  rw [hrf] at href
  have HRF := Lib.hid hrf
  clear hre hg2 q1 q2 q3 hrf
  go_wp2_with fail
  (with_reducible refine href.mono ?_)
  rintro e9 w3 ⟨rfl, rfl⟩
  clear href
  cases rf with
  | true =>
    go_wp2_with fail
    (with_reducible refine (HDO.out _ HG2.out).mono ?_)
    rintro e9 w3 ⟨rfl, hg3⟩
    go_wp2_with fail
    go_ret
    exact ⟨rfl, HG2.out.trans hg3⟩
  | false =>
  have hm := match_any (s := s) (k := k) (fuel := 200000) (by omega) f t HND.out.1 (by have := HND.out.2; omega) (fun h => by rw [HRF.out] at h; cases h) _ g w2 HRE.out (HTZ.out.grows HG2.out)
  rw [HRF.out] at hm
  obtain ⟨M, B, X, hM⟩ : ∃ M B X, matchR s f false k 200000 = (M, B, X) := ⟨_, _, _, rfl⟩
  rw [hM] at hm
  have HM := Lib.hid hM
  clear hM
  unfold mtV at hm
  go_wp2_with fail
  (with_reducible refine hm.mono ?_)
  rintro e9 w4 ⟨⟨rfl, hl⟩, hg4⟩
  have hgs : (spC M).size = 20 := by rw [spC_size]; exact hl
  have hz : (spC spZero).size = 20 := by rw [spC_size]; rfl
  have hov : over (spC spZero) 0 (spC M) = spC M := over_all (by omega)
  have hspn : span (spC M) 0 20 = spC M := span_all hgs
  have hg5 : Grows w4 (w4.alloc (.cells (spC M) 35)) := (Grows.refl _).alloc _
  have HG5 := Lib.hid ((HG2.out.trans hg4).trans hg5)
  have hre5 := (HRE.out.grows (hg4.trans hg5))
  have HRE5 := Lib.hid hre5
  have hb5 : blk (w4.alloc (.cells (spC M) 35)) w4.heap.size = spC M := blk_alloc_at _ _ _ _ rfl
  clear hm hg4 hg5 hre5
  go_upto_region 7 with fail
  obtain ⟨bM, hbM⟩ : ∃ z, z = w4.heap.size := ⟨_, rfl⟩
  rw [← hbM] at hb5 ⊢
  clear hbM hov
  generalize w4.alloc (.cells (spC M) 35) = w5 at *
  have iM := Blk.inHeap hb5 (by omega)
  have hL5 := loadSp_all w5 bM (spC M) hb5 hgs
  cases B with
  | false =>
    obtain ⟨rfl, rfl⟩ := match_no HM.out
    have hspz := span_zero
    go_wp2_with fail
    (with_reducible refine (HDO.out _ HG5.out).mono ?_)
    rintro e9 w6 ⟨rfl, hg6⟩
    go_wp2_with fail
    go_ret
    exact ⟨rfl, HG5.out.trans hg6⟩
  | true =>
  obtain ⟨rfl, hk0, i, j, z0, z1, hki, hij, hjs, hin, hmm⟩ := match_in HY.out k 200000 HM.out
  obtain ⟨k0, rfl⟩ : ∃ k0 : Nat, k = k0 := ⟨k.toNat, by omega⟩
  have hki2 : k0 ≤ i := by omega
  have HL5 := Lib.hid hL5
  have HB5 := Lib.hid hb5
  have HIN := Lib.hid hin
  have HGS := Lib.hid hgs
  have HLM := Lib.hid hl
  have HMM := Lib.hid (hmm ((k0 + i) / 2) (by omega) (by omega) 200000)
  have HMI := Lib.hid (hmm i (by omega) (Nat.le_refl _) 200000)
  have cc0 := (Blk.cell hb5 (by omega) 0).trans (spC_get (by omega))
  have cc1 := (Blk.cell hb5 (by omega) 1).trans (spC_get (by omega))
  rw [z0] at cc0
  rw [z1] at cc1
  clear hmm hin hL5 hb5 z0 z1 HM hspn hz hk
  have hgr : ∀ W, Grows w5 W → Calls Tryz.prog 15 #[.pointer (some ⟨g, 1, none⟩)] W fun e w' => e = .returned (.int .i64 t.groups) ∧ w' = W := fun W h => (groups_any (HRE5.out.grows h)).mono fun e w' h => ⟨h.1, h.2.symm⟩
  have HGR := Lib.hid hgr
  clear hgr
  have g1 : ¬ ((k0 : Int) < 0) := by omega
  have g2 : ¬ ((i : Int) < (k0 : Int)) := by omega
  have g2b : decide (i < k0) = false := decide_eq_false (by omega)
  have g3 : ¬ ((j : Int) < (i : Int)) := by omega
  have g3b : decide (j < i) = false := decide_eq_false (by omega)
  have g4 : ¬ ((s.length : Int) < (j : Int)) := by omega
  have g4b : decide (s.length < j) = false := decide_eq_false (by omega)
  go_upto_region 11 with fail
  go_quiet (fail)
  go_wp2_with fail
  clear g1 g2 g2b g3 g3b g4 g4b cc0 cc1 iM
  go_loopg [14, 15] 9 (fun q v14 _ wr => ∃ n : Nat, 1 ≤ n ∧ n ≤ 10 ∧ q + n = 10 ∧ v14 = .int .i64 n ∧ Grows w5 wr)
  case atStart => exact ⟨1, by omega, by omega, by omega, rfl, (by repeat' first | exact HG5.out | exact Grows.refl _ | refine Grows.drewN ?_ _ | refine Grows.drew ?_)⟩
  case round =>
    obtain ⟨n, hn1, hn2, hq, rfl, hg⟩ := hrel
    have HQ := Lib.hid hq
    have HG := Lib.hid hg
    have hbr := blkG HB5.out (by have := HGS.out; omega) hg
    have iM := Blk.inHeap hbr (by have := HGS.out; omega)
    by_cases hn : n < 10
    · have n1 : (n : Int) < 10 := by omega
      have d0 := (Blk.cell hbr (by have := HGS.out; omega) (n * 2)).trans (spC_get (by have := HLM.out; omega))
      have d1 := (Blk.cell hbr (by have := HGS.out; omega) (n * 2 + 1)).trans (spC_get (by have := HLM.out; omega))
      have he := HIN.out.each n hn1 hn
      unfold spA spB at he
      rw [Nat.mul_comm 2 n] at he
      generalize M.getD (n * 2) 0 = a0 at *
      generalize M.getD (n * 2 + 1) 0 = b0 at *
      have hgr : ∀ W, Grows wr W → Calls Tryz.prog 15 #[.pointer (some ⟨g, 1, none⟩)] W fun e w' => e = .returned (.int .i64 t.groups) ∧ w' = W := fun W h => HGR.out W (HG.out.trans h)
      clear hbr hq hg
      rcases he with ⟨rfl, rfl⟩ | ⟨h1, h2, h3, h4⟩
      · go_upto_region 18 with fail
        go_quiet (fail)
        go_wp2_with fail
        go_roundg (gk - 1)
        case measure => have := HQ.out; omega
        case rel => exact ⟨n + 1, by omega, by omega, by have := HQ.out; omega, by go_num, (by repeat' first | exact HG.out | exact Grows.refl _ | refine Grows.drewN ?_ _ | refine Grows.drew ?_)⟩
      · have b1 : (a0 == (-1 : Int)) = false := by rw [beq_eq_false_iff_ne]; omega
        have b2 : decide (t.groups < n) = false := decide_eq_false (by omega)
        have b3 : ¬ ((t.groups : Int) < (n : Int)) := by omega
        have b4 : ¬ (a0 < (i : Int)) := by omega
        have b4b : decide (a0 < (i : Int)) = false := decide_eq_false b4
        have b5 : ¬ (b0 < a0) := by omega
        have b5b : decide (b0 < a0) = false := decide_eq_false b5
        have b6 : ¬ ((j : Int) < b0) := by omega
        have b6b : decide ((j : Int) < b0) = false := decide_eq_false b6
        go_upto_region 18 with fail
        go_quiet ((go_at_call 15; exact Calls.quiet_of_same (hgr _ (by repeat' first | exact Grows.refl _ | refine Grows.drewN ?_ _ | refine Grows.drew ?_))))
        go_wp2_with fail
        go_roundg (gk - 1)
        case measure => have := HQ.out; omega
        case rel => exact ⟨n + 1, by omega, by omega, by have := HQ.out; omega, by go_num, (by repeat' first | exact HG.out | exact Grows.refl _ | refine Grows.drewN ?_ _ | refine Grows.drew ?_)⟩
    · have n1 : ¬ (n : Int) < 10 := by omega
      have n1b : decide (n < 10) = false := decide_eq_false hn
      have hd : Int.tdiv ((k0 : Int) + (i : Int)) 2 = (((k0 + i) / 2 : Nat) : Int) := by rw [Int.tdiv_eq_ediv_of_nonneg (by omega)]; omega
      have hd2 : ((k0 : Int) + (i : Int)) / 2 = (((k0 + i) / 2 : Nat) : Int) := by omega
      have hm := match_any (s := s) (k := (((k0 + i) / 2 : Nat) : Int)) (fuel := 200000) (by omega) f t HND.out.1 (by have := HND.out.2; omega) (fun h => by rw [HRF.out] at h; cases h) _ g wr (HRE5.out.grows HG.out) (HTZ.out.grows (HG5.out.trans HG.out))
      rw [HRF.out, HMM.out] at hm
      unfold mtV at hm
      have HBr := Lib.hid hbr
      have hm9 : (k0 + i) / 2 ≤ 60 := by omega
      clear hbr hq hg n1b hn
      generalize (k0 + i) / 2 = mid at *
      go_wp2_with fail
      (with_reducible refine hm.mono ?_)
      rintro e9 w6 ⟨⟨rfl, -⟩, hg6⟩
      have hgs := HGS.out
      have hz : (spC spZero).size = 20 := by rw [spC_size]; rfl
      have hov : over (spC spZero) 0 (spC M) = spC M := over_all (by omega)
      have hg7 : Grows w6 (w6.alloc (.cells (spC M) 35)) := (Grows.refl _).alloc _
      have HG7 := Lib.hid ((HG.out.trans hg6).trans hg7)
      have hbn6 : blk (w6.alloc (.cells (spC M) 35)) w6.heap.size = spC M := blk_alloc_at _ _ _ _ rfl
      have HB7 := Lib.hid (And.intro (blkG (blkG HBr.out (by omega) hg6) (by omega) hg7) hbn6)
      clear hm hg6 hg7 hd hd2 n1 hbn6
      go_upto_region 21 with fail
      obtain ⟨bN, hbN⟩ : ∃ z, z = w6.heap.size := ⟨_, rfl⟩
      have HB7b := HB7.out
      rw [← hbN] at HB7b ⊢
      have HB7 := Lib.hid HB7b
      clear hbN HB7b
      generalize w6.alloc (.cells (spC M) 35) = w7 at *
      have hm := match_any (s := s) (k := (i : Int)) (fuel := 200000) (by omega) f t HND.out.1 (by have := HND.out.2; omega) (fun h => by rw [HRF.out] at h; cases h) _ g w7 (HRE5.out.grows HG7.out) (HTZ.out.grows (HG5.out.trans HG7.out))
      rw [HRF.out, HMI.out] at hm
      unfold mtV at hm
      go_wp2_with fail
      (with_reducible refine hm.mono ?_)
      rintro e9 w8 ⟨⟨rfl, -⟩, hg8⟩
      have hg9 : Grows w8 (w8.alloc (.cells (spC M) 35)) := (Grows.refl _).alloc _
      have HG9 := Lib.hid ((HG7.out.trans hg8).trans hg9)
      have hbM9 := blkG (blkG HB7.out.1 (by omega) hg8) (by omega) hg9
      have hbN9 := blkG (blkG HB7.out.2 (by omega) hg8) (by omega) hg9
      have hbP9 : blk (w8.alloc (.cells (spC M) 35)) w8.heap.size = spC M := blk_alloc_at _ _ _ _ rfl
      have hes := eq_spans M HLM.out
      clear hm hg8 hg9
      go_upto_region 22 with fail
      obtain ⟨bP, hbP⟩ : ∃ z, z = w8.heap.size := ⟨_, rfl⟩
      rw [← hbP] at hbP9 ⊢
      clear hbP
      generalize w8.alloc (.cells (spC M) 35) = w9 at *
      have L1 := loadSp_all w9 bM (spC M) hbM9 hgs
      have L2 := loadSp_all w9 bN (spC M) hbN9 hgs
      have L3 := loadSp_all w9 bP (spC M) hbP9 hgs
      go_wp2_with fail
      (with_reducible refine (HDO.out _ (HG5.out.trans HG9.out)).mono ?_)
      rintro e9 w10 ⟨rfl, hg10⟩
      go_wp2_with fail
      go_ret
      exact ⟨rfl, (HG5.out.trans HG9.out).trans hg10⟩
end Go.Proofs.YtnjagecmhdagkaaGreatDoor
