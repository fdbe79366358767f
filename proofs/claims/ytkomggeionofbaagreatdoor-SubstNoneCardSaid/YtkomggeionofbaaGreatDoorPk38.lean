/-
  Several texts of the proof: MatJ, MatK.
-/
import Derived.Test.YtkomggeionofbaaGreatDoorPk30
set_option linter.unusedSimpArgs false
set_option linter.unusedVariables false
/-
  Matches: stretches of groups within a node, walked.
-/
namespace Go.Proofs.YtkomggeionofbaaGreatDoor
open Go.RowKit

attribute [local go_sem ↓] zeroNm ldNm_eq stNm_eq
attribute [local go_sem] loadNm loadNm_if storeNm storeNm_if nm_one_nd nm_size_nd over_nm span_nm
section
variable {s : List UInt8} {Nm : Nat → NdV → Fr → Prop} {tb r lo : Nat}
/-- How things stand while turns are given their stretches. -/
structure WtAt (s : List UInt8) (Nm : Nat → NdV → Fr → Prop) (tb r lo : Nat) (x : NdV) (K : Option Addr) (kn kc id : Nat) (A : Option Addr) (kl cap e bT bX bE G bD d : Nat) (g : Spn) (q : Nat → Prop) (w wr : World) : Prop where
  v : WvAt tb x K kn kc id A kl cap e bT bX bE wr
  d : blk wr bD = #[.int .i64 d]
  sp : SpAt wr G g
  tab : TbAt s Nm tb r lo q wr
  chg : Chg (fun y => y = r ∨ y = G) w wr
  low : w.heap.size ≤ bD
set_option maxRecDepth 100000 in
set_option maxHeartbeats 8000000 in
theorem within_any (hs : s.length ≤ 60000) (hN : NumOk Nm) {x : NdV} {k : Fr} (hgive : GiveC s Nm tb r lo k) : WithinC s Nm tb r lo x k := by
  intro id K kn kc A cap a e G g q w hid hall hnf ht hq hae hen hnode hG hqG hGr hGt hGlo
  have hW := wds_le hs
  obtain ⟨hok, hidl⟩ := hN.ok id x k hid
  have hmn := hok.mn
  have hxn := hok.n
  have hxi : (x.n : Int) < 10 := by omega
  have H := Lib.hid ht
  have HNF := Lib.hid hnf
  have HALL := Lib.hid hall
  have HQ := Lib.hid hq
  have HID := Lib.hid hid
  have HG := Lib.hid hG
  have HQG := Lib.hid hqG
  have HN := Lib.hid hN
  have HND := Lib.hid hnode
  have irw : r < w.heap.size := ht.rlt
  have itw : tb < w.heap.size := ht.inh
  have iGw : G < w.heap.size := hG.inh
  clear ht hnf hall hq hid hG hqG hN hok hnode
  obtain ⟨S, hS⟩ : ∃ S, withinV s x k (giveV s k) a e g = S := ⟨_, rfl⟩
  rw [hS]
  have HS := Lib.hid hS
  clear hS
  go_enter Tryz.func89, Tryz.ntmps89
  go_upto_region 1 with fail
  have hL := (((LaidAt.start w).alloc #[.pointer (some ⟨tb, 0, none⟩)] 124).alloc (nmC x (.slice K kn kc) id (.slice A k.len cap)) 114).alloc #[.int .i64 e] 3
  generalize ((w.alloc (Obj.cells #[.pointer (some ⟨tb, 0, none⟩)] 124)).alloc (Obj.cells (nmC x (.slice K kn kc) id (.slice A k.len cap)) 114)).alloc (Obj.cells #[.int .i64 e] 3) = w1 at *
  obtain ⟨bE, hbE⟩ : ∃ z, z = w.heap.size + 1 + 1 := ⟨_, rfl⟩
  obtain ⟨bX, hbX⟩ : ∃ z, z = w.heap.size + 1 := ⟨_, rfl⟩
  obtain ⟨bT, hbT⟩ : ∃ z, z = w.heap.size := ⟨_, rfl⟩
  rw [← hbE, ← hbX, ← hbT]
  have hV1 : WvAt tb x K kn kc id A k.len cap e bT bX bE w1 := ⟨by rw [hbT]; exact hL.blk 0 _ rfl, by rw [hbX]; exact hL.blk 1 _ rfl, by rw [hbE]; exact hL.blk 2 _ rfl⟩
  have hg1 := hL.grows
  have hz1 : w1.heap.size = w.heap.size + 3 := hL.size
  have HB : Hid (bT = w.heap.size ∧ bX = w.heap.size + 1 ∧ bE = w.heap.size + 1 + 1) := Lib.hid ⟨hbT, hbX, hbE⟩
  have hne : bT ≠ r ∧ bX ≠ r ∧ bE ≠ r := by omega
  have hneG : bT ≠ G ∧ bX ≠ G ∧ bE ≠ G := by omega
  clear hL hbE hbX hbT
  have e0 := hV1.kind
  have V1 := Lib.hid hV1
  have G1 := Lib.hid hg1
  have T1 := Lib.hid (H.out.grows hg1)
  have S1 := Lib.hid (HG.out.grows hg1)
  have NF1 : Hid (NfAt (fun b => b < lo) w1 A cap k (id + 1)) := Lib.hid (HNF.out.chg (Chg.of_grows (p := fun _ => False) hg1) fun _ _ _ h => h)
  have HQ1 : Hid (∀ b, w1.heap.size ≤ b → q b) := Lib.hid fun b hb => HQ.out b (by omega)
  have NE := Lib.hid (And.intro hne hneG)
  have NFW := HNF
  clear hV1 hg1 H HNF hne hneG
  by_cases h7 : x.kind = 7
  · have b7 : ((x.kind : Int) == 7) = true := by simp; omega
    have hends : endsF s k a e = true := by have := HND.out; rw [nodeS_7 h7] at this; exact this
    have hcall := hgive (id + 1) A cap a e G g q w1 HALL.out NF1.out T1.out HQ1.out hae hen hends S1.out HQG.out hGr hGt hGlo
    have hSe : S = spSet (giveV s k a e g) x.n a e := by rw [← HS.out]; unfold withinV; rw [if_pos h7]
    have k1 := V1.out.kids
    have e1 := V1.out.ec
    have t1 := V1.out.tc
    subst hSe
    have hgl : (giveV s k a e g).length = 20 := by rw [give_len]; exact HG.out.len
    clear h7 HS hends
    go_wp2_with fail
    (with_reducible refine hcall.mono ?_)
    rintro e9 w2 ⟨rfl, hS2, hT2, hC2⟩
    have V2 := V1.out.chg hC2 ⟨fun h => h.elim NE.out.1.1 NE.out.2.1, fun h => h.elim NE.out.1.2.1 NE.out.2.2.1, fun h => h.elim NE.out.1.2.2 NE.out.2.2.2⟩
    have c258 := V2.n
    have cE := V2.ec
    have g0 := hS2.cell (k := x.n * 2) (by omega)
    have g1 := hS2.cell (k := x.n * 2 + 1) (by omega)
    have gf := hS2.free
    have iG : InHeap G w2 := hS2.inh
    have iX : InHeap bX w2 := V2.lts.2.1
    have iE : InHeap bE w2 := V2.lts.2.2
    generalize hz0 : (giveV s k a e g).getD (x.n * 2) 0 = z0 at g0
    generalize hz1 : (giveV s k a e g).getD (x.n * 2 + 1) 0 = z1 at g1
    have hputT := hT2.put (sp_chg w2 G x.n (.int .i64 a) (.int .i64 e)) HQG.out hGr hGt hGlo
    have HPT := Lib.hid hputT
    have S2 := Lib.hid hS2
    have C2 := Lib.hid ((Chg.of_grows G1.out).trans hC2)
    clear hcall hS2 hT2 hC2 hputT V2 hz0 hz1 k1 e1 t1 e0
    go_upto_region 4 with fail
    go_region_law (fail)
    all_goals
      go_wp2_with fail
      exact ⟨rfl, .tuple #[], results_none rfl _ _ _, rfl, (S2.out.put _ _ _).grows (by repeat' first | exact Grows.refl _ | refine Grows.drewN ?_ _ | refine Grows.drew ?_), HPT.out.grows (by repeat' first | exact Grows.refl _ | refine Grows.drewN ?_ _ | refine Grows.drew ?_), C2.out.trans (((sp_chg _ _ _ _ _).mono fun _ _ h => .inr h).trans (Chg.of_grows (by repeat' first | exact Grows.refl _ | refine Grows.drewN ?_ _ | refine Grows.drew ?_)))⟩
  have b7 : ((x.kind : Int) == 7) = false := by simp; omega
  by_cases h8 : x.kind = 8
  · have b8 : ((x.kind : Int) == 8) = true := by simp; omega
    have ht0 : turnsS s.length x (endsF s k) a 0 e = true := by have := HND.out; rw [nodeS_8 h8] at this; exact this
    have hSe : turnLoop s.length x (endsF s k) (giveV s k) (unsetV k) ((e - a) + x.mn + 1) a e 0 g = S := by rw [← HS.out]; unfold withinV; rw [if_neg h7, if_pos h8]
    have HT0 := Lib.hid ht0
    have HSE := Lib.hid hSe
    clear h7 h8 HS HND ht0 hSe
    have hT2 : WtAt s Nm tb r lo x K kn kc id A k.len cap e bT bX bE G (w.heap.size + 3) 0 g q w (w1.alloc (.cells #[.int .i64 0] 3)) := by
      have hg2 : Grows w1 (w1.alloc (.cells #[.int .i64 0] 3)) := (Grows.refl _).alloc _
      exact ⟨V1.out.grows hg2, blk_alloc_at _ _ _ _ hz1.symm, S1.out.grows hg2, T1.out.grows hg2, Chg.of_grows (G1.out.trans hg2), by omega⟩
    have HT2 := Lib.hid hT2
    have hz2 : (w1.alloc (.cells #[.int .i64 0] 3)).heap.size = w.heap.size + 4 := by simp [hz1]
    clear hT2
    go_wp2_with fail
    obtain ⟨bD0, hbD0⟩ : ∃ z, z = w.heap.size + 3 := ⟨_, rfl⟩
    rw [← hbD0] at HT2 ⊢
    obtain ⟨F0, hF0⟩ : ∃ z, z = (e - a) + x.mn + 1 := ⟨_, rfl⟩
    rw [← hF0] at HSE
    generalize w1.alloc (.cells #[.int .i64 0] 3) = w2 at *
    clear hbD0 hz2 e0 b7 b8
    go_loopg [2, 10] F0 (fun q0 v2 v10 wr => ∃ (t d bD : Nat) (g' : Spn), v2 = .int .i64 t ∧ v10 = .pointer (some ⟨bD, 0, none⟩) ∧ WtAt s Nm tb r lo x K kn kc id A k.len cap e bT bX bE G bD d g' q w wr ∧ t ≤ e ∧ turnsS s.length x (endsF s k) t d e = true ∧ turnLoop s.length x (endsF s k) (giveV s k) (unsetV k) q0 t e d g' = S ∧ (e - t) + (x.mn - d) + 1 ≤ q0 ∧ d + q0 = F0)
    case atStart => exact ⟨a, 0, bD0, g, rfl, rfl, HT2.out, hae, HT0.out, HSE.out, by omega, by omega⟩
    case round =>
      obtain ⟨t, d, bD, g', rfl, rfl, hWt, hte, htu, hlo, hF, hdF⟩ := hrel
      clear HT2 HT0 HSE S1 T1 V1 G1 NF1 HQ1 hz1
      have e1 := hWt.v.ec
      have e2 := hWt.v.mn
      have e3 : wr.cell? ⟨bD, 0, none⟩ = some (.int .i64 d) := Blk.cell hWt.d (by simp) 0
      have W := Lib.hid hWt
      have HTU := Lib.hid htu
      have HLO := Lib.hid hlo
      have HF := Lib.hid (And.intro hF hdF)
      have hte9 : t ≤ 60000 := by omega
      have hd9 : d ≤ 62000 := by omega
      have HF0 := Lib.hid hF0
      clear hWt htu hlo hF hdF hF0
      obtain ⟨B, hB⟩ : ∃ B, (decide (t < e) || decide (d < x.mn)) = B := ⟨_, rfl⟩
      go_upto_region 7 with fail
      go_cut [44] (fun v44 wx => v44 = .bool B ∧ wx = wr)
      case first =>
        by_cases h1 : t < e
        · have h1i : (t : Int) < (e : Int) := by omega
          have hBt : B = true := by rw [← hB, decide_eq_true h1]; rfl
          subst hBt
          clear hB
          go_wp2_with fail
          go_meet
          exact ⟨rfl, rfl⟩
        · have h1b : decide (t < e) = false := decide_eq_false h1
          rw [h1b, Bool.false_or] at hB
          go_wp2_with fail
          go_meet
          exact ⟨rfl, rfl⟩
      case rest =>
        obtain ⟨rfl, hw⟩ := hcut
        have hw := hw.symm
        subst hw
        cases B with
        | false =>
          have hno : ¬ (t < e ∨ d < x.mn) := by simpa using hB
          have hSe : g' = S := by
            have h1 := HLO.out
            obtain ⟨F, hFF⟩ : ∃ F, gk = F + 1 := ⟨gk - 1, by have := HF.out.1; omega⟩
            rw [hFF] at h1
            unfold turnLoop at h1
            rw [if_neg hno] at h1
            exact h1
          subst hSe
          clear hB hno HLO e1 e2 e3
          go_wp2_with fail
          exact ⟨rfl, .tuple #[], results_none rfl _ _ _, rfl, W.out.sp, W.out.tab, W.out.chg⟩
        | true =>
          have hgo : t < e ∨ d < x.mn := by simpa using hB
          obtain ⟨s1, s2, s3, s4, s5⟩ := loop_spec (endsF_rises s k) hte hen HTU.out hgo
          have hLO2 : turnLoop s.length x (endsF s k) (giveV s k) (unsetV k) (gk - 1) (longF (endsF s k t) (fun p => turnsS s.length x (endsF s k) p (d + 1) e) t e) e (d + 1) (giveV s k t (longF (endsF s k t) (fun p => turnsS s.length x (endsF s k) p (d + 1) e) t e) (unsetV k g')) = S := by
            have h1 := HLO.out
            obtain ⟨F, hFF⟩ : ∃ F, gk = F + 1 := ⟨gk - 1, by have := HF.out.1; omega⟩
            rw [hFF] at h1
            unfold turnLoop at h1
            rw [if_pos hgo] at h1
            rw [hFF]
            exact h1
          have hlongD := fun (w0 w9 : World) (bR : Nat) (h1 : Chg (fun y => y = r) wr w9) (h2 : TbAt s Nm tb r lo q w9) (h3 : PlAt w9 bR (wds s.length) (endsF s k t)) (h4 : wr.heap.size ≤ bR) (h5 : Grows w9 w0) => (show Calls Tryz.prog 86 #[plV bR (wds s.length), .int .i64 t, .int .i64 e, .func (.func 110) #[] #[.pointer (some ⟨bT, 0, none⟩), .pointer (some ⟨bX, 0, none⟩), .pointer (some ⟨bD, 0, none⟩), .pointer (some ⟨bE, 0, none⟩)]] w0 fun e' w' => e' = .returned (.int .i64 (longF (endsF s k t) (fun p => turnsS s.length x (endsF s k) p (d + 1) e) t e : Nat)) ∧ TbAt s Nm tb r lo q w' ∧ Chg (fun y => y = r) w9 w' from by
            have hrl := W.out.tab.rlt
            have hsz := h1.size
            have hl := W.out.low
            have hv := W.out.v.lts
            have hws := W.out.chg.size
            have hDl : bD < wr.heap.size := Blk.inHeap W.out.d (by simp)
            exact within_long hs HN.out t d e id K kn kc A cap q (W.out.v.chg h1 NE.out.1) ((chg_blk h1 hDl (by omega)).trans W.out.d) h3 HID.out HALL.out ((NFW.out.chg W.out.chg fun b _ hb e => by have := W.out.tab.lr; omega).chg h1 fun b _ hb e => by have := W.out.tab.lr; omega) h2 (fun b hb => HQ.out b (by omega)) (by omega) hen (by omega) ⟨NE.out.1.1, NE.out.1.2.1, NE.out.1.2.2, by omega, by omega⟩ h5)
          obtain ⟨uu, huu⟩ : ∃ z, longF (endsF s k t) (fun p => turnsS s.length x (endsF s k) p (d + 1) e) t e = z := ⟨_, rfl⟩
          rw [huu] at s1 s2 s3 s4 s5 hLO2
          simp only [huu] at hlongD
          have HLD := Lib.hid hlongD
          have HLO2 := Lib.hid hLO2
          have HS9 := Lib.hid (And.intro s1 (And.intro s2 (And.intro s3 (And.intro s4 s5))))
          have hNFr : NfAt (fun b => b < lo) wr A cap k (id + 1) := NFW.out.chg W.out.chg fun b _ hb e => by have := W.out.tab.lr; omega
          have HNFr := Lib.hid hNFr
          have hszw := W.out.chg.size
          have HQr : Hid (∀ b, wr.heap.size ≤ b → q b) := Lib.hid fun b hb => HQ.out b (by omega)
          have hu9 : uu ≤ 60000 := by omega
          have htn : t ≤ s.length := by omega
          have t1 := W.out.v.tc
          have k1 := W.out.v.kids
          have iT : InHeap bT wr := W.out.v.lts.1
          have iX : InHeap bX wr := W.out.v.lts.2.1
          have iE : InHeap bE wr := W.out.v.lts.2.2
          clear hlongD hLO2 s1 s2 s3 s4 s5 huu hgo hB hNFr HLO HTU e2
          go_upto_region 9 with fail
          go_cut [11] (fun v11 wx => v11 = .int .i64 uu ∧ TbAt s Nm tb r lo q wx ∧ Chg (fun y => y = r) wr wx)
          case first =>
            go_region_law (first
              | (go_simp; (with_reducible refine Calls.mono (row_drew (mrow_ok hs HN.out k) _ A cap t HALL.out HNFr.out W.out.tab HQr.out htn (by repeat' first | exact Grows.refl _ | refine Grows.drewN ?_ _ | refine Grows.drew ?_)) ?_); rintro e' w3 ⟨bR, rfl, hB3, hbl3, hT3, hC3⟩; have eE3 : w3.cell? ⟨bE, 0, none⟩ = some (.int .i64 e) := (W.out.v.chg hC3 NE.out.1).ec; have B3 := Lib.hid hB3; have T3 := Lib.hid hT3; have C3 := Lib.hid hC3; have L3 := Lib.hid hbl3; clear hB3 hT3 hC3 hbl3; dsimp only)
              | (go_simp; (with_reducible refine Calls.mono (HLD.out _ w3 bR C3.out T3.out B3.out L3.out (by repeat' first | exact Grows.refl _ | refine Grows.drewN ?_ _ | refine Grows.drew ?_)) ?_); rintro e' w4 ⟨rfl, hT4, hC4⟩; have T4 := Lib.hid hT4; have C4 := Lib.hid hC4; clear hT4 hC4; dsimp only))
            all_goals
              go_wp2_with fail
              go_meet
              exact ⟨rfl, T4.out.grows (by repeat' first | exact Grows.refl _ | refine Grows.drewN ?_ _ | refine Grows.drew ?_), (C3.out.trans C4.out).trans (Chg.of_grows (by repeat' first | exact Grows.refl _ | refine Grows.drewN ?_ _ | refine Grows.drew ?_))⟩
          case rest =>
            obtain ⟨rfl, hT5, hC5⟩ := hcut
            have hDl : bD < wr.heap.size := Blk.inHeap W.out.d (by simp)
            have hDr : bD ≠ r ∧ bD ≠ G := by have := W.out.low; omega
            have V5 := W.out.v.chg hC5 NE.out.1
            have D5 := (chg_blk hC5 hDl hDr.1).trans W.out.d
            have S5 := W.out.sp.chg hC5 hGr
            have NF5 : NfAt (fun b => b < lo) wc A cap k (id + 1) := HNFr.out.chg hC5 fun b _ hb e => by have := W.out.tab.lr; omega
            have hun := unset_any (fun b => b < lo) k.size k (id + 1) A cap wc G g' (Nat.le_refl _) (AllNum.nd HN.out HALL.out) NF5 S5 (by omega)
            have k5 := V5.kids
            have hs5 := hC5.size
            have HV5 := Lib.hid V5
            have HD5 := Lib.hid D5
            have HNF5 := Lib.hid NF5
            have HT5 := Lib.hid hT5
            have HC5 := Lib.hid (W.out.chg.trans (hC5.mono fun _ _ h => .inl h))
            clear HLD V5 D5 S5 NF5 hT5 hC5 e1 e3 t1 k1 iT iX iE
            go_wp2_with fail
            (with_reducible refine hun.mono ?_)
            rintro e9 w6 ⟨rfl, hS6, hC6⟩
            have V6 := HV5.out.chg hC6 NE.out.2
            have D6 := (chg_blk hC6 (by have := hs5; omega) hDr.2).trans HD5.out
            have NF6 : NfAt (fun b => b < lo) w6 A cap k (id + 1) := HNF5.out.chg hC6 fun b _ hb e => by omega
            have T6 := HT5.out.put hC6 HQG.out hGr hGt hGlo
            have hs6 := hC6.size
            have hgv := hgive (id + 1) A cap t uu G _ q w6 HALL.out NF6 T6 (fun b hb => HQ.out b (by omega)) HS9.out.2.2.1 (by have := HS9.out.2.2.2.1; omega) HS9.out.1 hS6 HQG.out hGr hGt hGlo
            have t6 := V6.tc
            have k6 := V6.kids
            have HV6 := Lib.hid V6
            have HD6 := Lib.hid D6
            have HC6 := Lib.hid (HC5.out.trans (hC6.mono fun _ _ h => .inr h))
            clear hun hS6 hC6 V6 D6 NF6 T6 k5 HV5 HD5 HNF5 HT5 HC5
            go_wp2_with fail
            (with_reducible refine hgv.mono ?_)
            rintro e9 w7 ⟨rfl, hS7, hT7, hC7⟩
            have V7 := HV6.out.chg hC7 ⟨fun h => h.elim NE.out.1.1 NE.out.2.1, fun h => h.elim NE.out.1.2.1 NE.out.2.2.1, fun h => h.elim NE.out.1.2.2 NE.out.2.2.2⟩
            have D7 := (chg_blk hC7 (by omega) (fun h => h.elim hDr.1 hDr.2)).trans HD6.out
            have d7 : w7.cell? ⟨bD, 0, none⟩ = some (.int .i64 d) := Blk.cell D7 (by simp) 0
            have hs7 := hC7.size
            have hgE : Grows w7 (w7.alloc (.cells #[.int .i64 ((d : Int) + 1)] 3)) := (Grows.refl _).alloc _
            have W9 : WtAt s Nm tb r lo x K kn kc id A k.len cap e bT bX bE G w7.heap.size (d + 1) (giveV s k t uu (unsetV k g')) q w (w7.alloc (.cells #[.int .i64 ((d : Int) + 1)] 3)) :=
              ⟨V7.grows hgE, blk_alloc_at _ _ _ _ rfl, hS7.grows hgE, hT7.grows hgE, (HC6.out.trans hC7).trans (Chg.of_grows hgE), by omega⟩
            have HW9 := Lib.hid W9
            clear hgv hS7 hT7 hC7 V7 D7 t6 k6 HV6 HD6 HC6 hgE W9 W
            go_wp2_with fail
            go_roundg (gk - 1)
            case measure => have := HF.out; omega
            case rel => exact ⟨uu, d + 1, w7.heap.size, _, rfl, rfl, HW9.out, HS9.out.2.2.2.1, HS9.out.2.1, HLO2.out, by have := HF.out; have := HS9.out.2.2.2.2; omega, by have := HF.out; omega⟩
  have b8 : ((x.kind : Int) == 8) = false := by simp; omega
  have hSe : S = g := by rw [← HS.out]; unfold withinV; rw [if_neg h7, if_neg h8]
  subst hSe
  clear h7 h8 HS
  go_wp2_with fail
  exact ⟨rfl, .tuple #[], results_none rfl _ _ _, rfl, S1.out, T1.out, Chg.of_grows G1.out⟩
end
end Go.Proofs.YtkomggeionofbaaGreatDoor

/-
  Matches: stretches of groups within a row, walked.
-/
namespace Go.Proofs.YtkomggeionofbaaGreatDoor
open Go.RowKit

attribute [local go_sem ↓] zeroNm ldNm_eq stNm_eq
attribute [local go_sem] loadNm loadNm_if storeNm storeNm_if nm_one_nd nm_size_nd over_nm span_nm
section
variable {s : List UInt8} {Nm : Nat → NdV → Fr → Prop} {tb r lo : Nat}
/-- How things stand while a row is given its stretches. -/
structure GtAt (s : List UInt8) (Nm : Nat → NdV → Fr → Prop) (tb r lo : Nat) (A : Option Addr) (n cap e bT bL bE G : Nat) (g : Spn) (q : Nat → Prop) (w wr : World) : Prop where
  t : blk wr bT = #[.pointer (some ⟨tb, 0, none⟩)]
  l : blk wr bL = #[.slice A n cap]
  e : blk wr bE = #[.int .i64 e]
  sp : SpAt wr G g
  tab : TbAt s Nm tb r lo q wr
  chg : Chg (fun y => y = r ∨ y = G) w wr
section
variable {A : Option Addr} {n cap e bT bL bE G : Nat} {g g2 : Spn} {q q2 : Nat → Prop} {w wr w2 : World}
set_option maxRecDepth 3000 in
theorem GtAt.lts (h : GtAt s Nm tb r lo A n cap e bT bL bE G g q w wr) : bT < wr.heap.size ∧ bL < wr.heap.size ∧ bE < wr.heap.size := ⟨Blk.inHeap h.t (by simp), Blk.inHeap h.l (by simp), Blk.inHeap h.e (by simp)⟩
set_option maxRecDepth 3000 in
theorem GtAt.step {p : Nat → Prop} (h : GtAt s Nm tb r lo A n cap e bT bL bE G g q w wr) (hc : Chg p wr w2) (hp : ¬ p bT ∧ ¬ p bL ∧ ¬ p bE) (hl : ∀ b, b < w.heap.size → p b → b = r ∨ b = G) (hs : SpAt w2 G g2) (ht : TbAt s Nm tb r lo q2 w2) : GtAt s Nm tb r lo A n cap e bT bL bE G g2 q2 w w2 :=
  ⟨(chg_blk hc h.lts.1 hp.1).trans h.t, (chg_blk hc h.lts.2.1 hp.2.1).trans h.l, (chg_blk hc h.lts.2.2 hp.2.2).trans h.e, hs, ht, chg_late h.chg hc hl⟩
end
set_option maxRecDepth 100000 in
set_option maxHeartbeats 8000000 in
theorem give_any (hs : s.length ≤ 60000) (hN : NumOk Nm) (f : Fr) (hAll : ∀ (a : Fr) (x : NdV) (k c : Fr), f = a.app (.cons x k c) → WithinC s Nm tb r lo x k) : GiveC s Nm tb r lo f := by
  intro m A cap a e G g q w hall hnf ht hq hae hen hends hG hqG hGr hGt hGlo
  have hW := wds_le hs
  have hfl : f.len ≤ 9223372036854775807 := by
    obtain ⟨xs, h1, _⟩ := hnf
    have := h1.le
    have := h1.cap63
    omega
  have irw : r < w.heap.size := ht.rlt
  have itw : tb < w.heap.size := ht.inh
  have iGw : G < w.heap.size := hG.inh
  have H := Lib.hid ht
  have HNF := Lib.hid hnf
  have HALL := Lib.hid hall
  have HQ := Lib.hid hq
  have HG := Lib.hid hG
  have HQG := Lib.hid hqG
  have HN := Lib.hid hN
  have HEND := Lib.hid hends
  have HWI := Lib.hid hAll
  clear ht hnf hall hq hG hqG hN hends hAll
  obtain ⟨S, hS⟩ : ∃ S, giveV s f a e g = S := ⟨_, rfl⟩
  rw [hS]
  have HS := Lib.hid hS
  clear hS
  go_enter Tryz.func61, Tryz.ntmps61
  go_upto_region 1 with fail
  have hL := (((LaidAt.start w).alloc #[.pointer (some ⟨tb, 0, none⟩)] 124).alloc #[.slice A f.len cap] 89).alloc #[.int .i64 e] 3
  generalize ((w.alloc (Obj.cells #[.pointer (some ⟨tb, 0, none⟩)] 124)).alloc (Obj.cells #[.slice A f.len cap] 89)).alloc (Obj.cells #[.int .i64 e] 3) = w1 at *
  obtain ⟨bE, hbE⟩ : ∃ z, z = w.heap.size + 1 + 1 := ⟨_, rfl⟩
  obtain ⟨bL, hbL⟩ : ∃ z, z = w.heap.size + 1 := ⟨_, rfl⟩
  obtain ⟨bT, hbT⟩ : ∃ z, z = w.heap.size := ⟨_, rfl⟩
  rw [← hbE, ← hbL, ← hbT]
  have hg1 := hL.grows
  have hz1 : w1.heap.size = w.heap.size + 3 := hL.size
  have hV1 : GtAt s Nm tb r lo A f.len cap e bT bL bE G g q w w1 := ⟨by rw [hbT]; exact hL.blk 0 _ rfl, by rw [hbL]; exact hL.blk 1 _ rfl, by rw [hbE]; exact hL.blk 2 _ rfl, HG.out.grows hg1, H.out.grows hg1, Chg.of_grows hg1⟩
  have NE : Hid ((bT ≠ r ∧ bL ≠ r ∧ bE ≠ r) ∧ (bT ≠ G ∧ bL ≠ G ∧ bE ≠ G)) := Lib.hid (by omega)
  have l1 : w1.cell? ⟨bL, 0, none⟩ = some (.slice A f.len cap) := Blk.cell hV1.l (by simp) 0
  have V1 := Lib.hid hV1
  clear hL hbE hbL hbT hV1 hg1 hz1
  go_wp2_with fail
  go_loopg [2, 16] f.len (fun q0 v2 v16 wr => ∃ (i t : Nat) (a1 c1 : Fr) (g' : Spn), q0 + i = f.len ∧ v2 = .int .i64 t ∧ v16 = .int .i64 i ∧ f = a1.app c1 ∧ a1.len = i ∧ GtAt s Nm tb r lo A f.len cap e bT bL bE G g' q w wr ∧ t ≤ e ∧ endsF s c1 t e = true ∧ giveV s c1 t e g' = S)
  case atStart => exact ⟨0, a, .nil, f, g, by omega, rfl, rfl, rfl, rfl, V1.out, hae, HEND.out, HS.out⟩
  case round =>
    obtain ⟨i, t, a1, c1, g', hq0, rfl, rfl, hf, hai, hV, hte, hend, hgv⟩ := hrel
    clear V1 l1
    cases c1 with
    | nil =>
      have hi : i = f.len := by rw [hf, Fr.app_nil]; exact hai.symm
      subst hi
      have hin : decide (f.len < f.len) = false := decide_eq_false (Nat.lt_irrefl _)
      have hgs : g' = S := hgv
      subst hgs
      have V := Lib.hid hV
      clear hV hend hgv hf hai hq0
      go_wp2_with fail
      exact ⟨rfl, .tuple #[], results_none rfl _ _ _, rfl, V.out.sp, V.out.tab, V.out.chg⟩
    | cons x k rest =>
      have hil : i < f.len := by rw [hf, Fr.len_app, hai]; simp [Fr.len]
      have hnr := HNF.out.chg hV.chg fun b _ hb e => by have := hV.tab.lr; omega
      obtain ⟨b5, o5, KA, kn, kc, K, capk, hA, hK, hld⟩ := hnr.node hf
      subst hA
      rw [hai] at hld
      have hall2 := HALL.out
      rw [hf, AllNum.app] at hall2
      obtain ⟨-, hid, hallk, -⟩ := hall2
      obtain ⟨s1, s2, s3, s4⟩ := give_spec hte hen hend
      obtain ⟨u, hu⟩ : ∃ z, longF (nodeS s x (endsF s k) t) (fun q => endsF s rest q e) t e = z := ⟨_, rfl⟩
      have hgv2 : giveV s rest u e (withinV s x k (giveV s k) t u g') = S := by rw [← hu]; exact hgv
      rw [hu] at s1 s2 s3 s4
      have HWX := Lib.hid (HWI.out a1 x k rest hf)
      have HNR := Lib.hid hnr
      have HID := Lib.hid hid
      have HALLK := Lib.hid hallk
      have HKN := Lib.hid hK
      have V := Lib.hid hV
      have HF := Lib.hid hf
      have HAI := Lib.hid hai
      have HQ0 := Lib.hid hq0
      have HSP := Lib.hid (And.intro s1 (And.intro s2 (And.intro s3 s4)))
      have HGV := Lib.hid hgv2
      have HU := Lib.hid hu
      have hte9 : t ≤ 60000 := by omega
      have hu9 : u ≤ 60000 := by omega
      clear hnr hid hallk hK hV hf hai hq0 s1 s2 s3 s4 hgv hgv2 hu hend
      obtain ⟨id, hidd⟩ : ∃ id, m + a1.size = id := ⟨_, rfl⟩
      rw [hidd] at hld HID HALLK HKN
      have hidm : Hid (m + a1.size = id) := Lib.hid hidd
      clear hidd
      go_upto_region 4 with fail
      have hL := ((LaidAt.start wr).alloc #[.int .i64 i] 3).alloc (nmC x (.slice KA kn kc) id (.slice K k.len capk)) 114
      obtain ⟨bI, hbI⟩ : ∃ z, z = wr.heap.size := ⟨_, rfl⟩
      obtain ⟨bX, hbX⟩ : ∃ z, z = wr.heap.size + 1 := ⟨_, rfl⟩
      rw [← hbX, ← hbI]
      generalize (wr.alloc (Obj.cells #[.int .i64 (i : Int)] 3)).alloc (Obj.cells (nmA (ndA (x.kind : Int) (x.byte : Int) x.set (x.n : Int) (x.mn : Int) x.mx (.slice KA kn kc)) (id : Int) (.slice K k.len capk)) 114) = w3 at *
      have hI3 : blk w3 bI = #[.int .i64 i] := by rw [hbI]; exact hL.blk 0 _ rfl
      have hX3 : blk w3 bX = nmC x (.slice KA kn kc) id (.slice K k.len capk) := by rw [hbX]; exact hL.blk 1 _ rfl
      have hg3 := hL.grows
      have hz3 : w3.heap.size = wr.heap.size + 2 := hL.size
      have V3 := V.out.step (Chg.of_grows (p := fun _ => False) hg3) ⟨fun h => h, fun h => h, fun h => h⟩ (fun _ _ h => h.elim) (V.out.sp.grows hg3) (V.out.tab.grows hg3)
      have t3 : w3.cell? ⟨bT, 0, none⟩ = some (.pointer (some ⟨tb, 0, none⟩)) := Blk.cell V3.t (by simp) 0
      have hcall := empty_any V3.tab.tab hs
      have hwr := V.out.chg.size
      have hGw : G < wr.heap.size := V.out.sp.inh
      have hrw : r < wr.heap.size := V.out.tab.rlt
      have htw : tb < wr.heap.size := V.out.tab.inh
      have hlts := V.out.lts
      have hlr := V.out.tab.lr
      have HB : Hid (bI = wr.heap.size ∧ bX = wr.heap.size + 1) := Lib.hid ⟨hbI, hbX⟩
      have HV3 := Lib.hid V3
      have HI3 := Lib.hid hI3
      have HX3 := Lib.hid hX3
      clear hL hbI hbX V3 hI3 hX3 hld
      go_wp2_with fail
      (with_reducible refine hcall.mono ?_)
      rintro e9 w4 ⟨c, rfl, hP4, hlo4, hg4⟩
      obtain ⟨hbI, hbX⟩ := HB.out
      have h34 := hg4.below.size
      have hcw : c < w4.heap.size := hP4.inh
      have V4 : GtAt s Nm tb r lo (some ⟨b5, o5, none⟩) f.len cap e bT bL bE G g' (fun y => q y ∧ y ≠ c) w w4 := HV3.out.step (Chg.of_grows (p := fun _ => False) hg4) ⟨fun h => h, fun h => h, fun h => h⟩ (fun _ _ h => h.elim) (HV3.out.sp.grows hg4) ((HV3.out.tab.away hlo4).grows hg4)
      have I4 := (chg_blk (Chg.of_grows (p := fun _ => False) hg4) (Blk.inHeap HI3.out (by simp)) (fun h => h)).trans HI3.out
      have X4 := (chg_blk (Chg.of_grows (p := fun _ => False) hg4) (Blk.inHeap HX3.out (by rw [nmC_size]; decide)) (fun h => h)).trans HX3.out
      have K4 : NfAt (fun b => b < lo) w4 K capk k (id + 1) := HKN.out.chg (Chg.of_grows (p := fun _ => False) (hg3.trans hg4)) fun _ _ _ h => h
      have hq4 : ∀ b, w4.heap.size ≤ b → (fun y => q y ∧ y ≠ c) b := fun b hb => ⟨HQ.out b (by omega), by omega⟩
      have hnode := mnode_ok hs HN.out (HN.out.ok _ _ _ HID.out).1 id KA kn kc K capk t c (fun _ => false) (fun y => q y ∧ y ≠ c) w4 HID.out HALLK.out K4 V4.tab hq4 (by omega) hP4 (fun h => h.2 rfl) (by omega) (by omega) (by omega)
      have hor : orP (fun _ => false) (nodeS s x (endsF s k) t) = nodeS s x (endsF s k) t := by funext j; simp [orP]
      rw [hor] at hnode
      have t4 : w4.cell? ⟨bT, 0, none⟩ = some (.pointer (some ⟨tb, 0, none⟩)) := Blk.cell V4.t (by simp) 0
      have ld4 := loadNm_all w4 bX _ X4 (nmC_size _ _ _ _)
      have HV4 := Lib.hid V4
      have HI4 := Lib.hid I4
      have HX4 := Lib.hid X4
      have HK4 := Lib.hid K4
      have HBB := Lib.hid (And.intro hbI hbX)
      have HLO4 := Lib.hid hlo4
      clear hcall hP4 hg4 V4 I4 X4 K4 hq4 hor HV3 HI3 HX3 HKN t3 hbI hbX hg3 hlo4
      go_wp2_with fail
      (with_reducible refine hnode.mono ?_)
      rintro e9 w5 ⟨rfl, hP5, hT5, hC5⟩
      have hlo4 := HLO4.out
      obtain ⟨hbI, hbX⟩ := HBB.out
      have h45 := hC5.size
      have V5 : GtAt s Nm tb r lo (some ⟨b5, o5, none⟩) f.len cap e bT bL bE G g' (fun y => q y ∧ y ≠ c) w w5 := HV4.out.step hC5 (by have := NE.out; omega) (fun b hb h => by omega) (HV4.out.sp.chg hC5 (by omega)) hT5
      have I5 := (chg_blk hC5 (Blk.inHeap HI4.out (by simp)) (by omega : ¬ (bI = r ∨ bI = c))).trans HI4.out
      have X5 := (chg_blk hC5 (Blk.inHeap HX4.out (by rw [nmC_size]; decide)) (by omega : ¬ (bX = r ∨ bX = c))).trans HX4.out
      have K5 : NfAt (fun b => b < lo) w5 K capk k (id + 1) := HK4.out.chg hC5 fun b _ hb e => by omega
      have hq5 : ∀ b, w5.heap.size ≤ b → (fun y => q y ∧ y ≠ c) b := fun b hb => ⟨HQ.out b (by omega), by omega⟩
      have hlong := give_long hs HN.out m b5 o5 cap i t e HF.out HAI.out (fun y => q y ∧ y ≠ c) V5.t V5.l I5 V5.e hP5 (fun p hp => (nodeS_rises (endsF_rises s k) t p (by omega) hp).2) HALL.out (HNF.out.chg V5.chg fun b _ hb e => by omega) V5.tab hq5 hen ⟨NE.out.1.1, NE.out.1.2.1, by omega, NE.out.1.2.2, by omega⟩ (Grows.refl w5)
      rw [HU.out] at hlong
      have t5 : w5.cell? ⟨bT, 0, none⟩ = some (.pointer (some ⟨tb, 0, none⟩)) := Blk.cell V5.t (by simp) 0
      have e5 : w5.cell? ⟨bE, 0, none⟩ = some (.int .i64 e) := Blk.cell V5.e (by simp) 0
      have HV5 := Lib.hid V5
      have HX5 := Lib.hid X5
      have HK5 := Lib.hid K5
      clear hnode hP5 hT5 hC5 V5 I5 X5 K5 hq5 HV4 HI4 HX4 HK4 t4 ld4 hbI hbX hlo4
      go_wp2_with fail
      (with_reducible refine hlong.mono ?_)
      rintro e9 w6 ⟨rfl, hT6, hC6⟩
      have hlo4 := HLO4.out
      obtain ⟨hbI, hbX⟩ := HBB.out
      have h56 := hC6.size
      have V6 : GtAt s Nm tb r lo (some ⟨b5, o5, none⟩) f.len cap e bT bL bE G g' (fun y => q y ∧ y ≠ c) w w6 := HV5.out.step hC6 NE.out.1 (fun b hb h => .inl h) (HV5.out.sp.chg hC6 hGr) hT6
      have X6 := (chg_blk hC6 (Blk.inHeap HX5.out (by rw [nmC_size]; decide)) (by omega)).trans HX5.out
      have K6 : NfAt (fun b => b < lo) w6 K capk k (id + 1) := HK5.out.chg hC6 fun b _ hb e => by omega
      have hq6 : ∀ b, w6.heap.size ≤ b → (fun y => q y ∧ y ≠ c) b := fun b hb => ⟨HQ.out b (by omega), by omega⟩
      have hwi := HWX.out id KA kn kc K capk t u G g' (fun y => q y ∧ y ≠ c) w6 HID.out HALLK.out K6 V6.tab hq6 HSP.out.2.2.1 (by have := HSP.out.2.2.2; omega) HSP.out.1 V6.sp (fun h => HQG.out h.1) hGr hGt hGlo
      have t6 : w6.cell? ⟨bT, 0, none⟩ = some (.pointer (some ⟨tb, 0, none⟩)) := Blk.cell V6.t (by simp) 0
      have ld6 := loadNm_all w6 bX _ X6 (nmC_size _ _ _ _)
      have HV6 := Lib.hid V6
      clear hlong hT6 hC6 V6 X6 K6 hq6 HV5 HX5 HK5 t5 e5 hbI hbX hlo4
      go_wp2_with fail
      (with_reducible refine hwi.mono ?_)
      rintro e9 w7 ⟨rfl, hS7, hT7, hC7⟩
      have hlo4 := HLO4.out
      have V7 : GtAt s Nm tb r lo (some ⟨b5, o5, none⟩) f.len cap e bT bL bE G (withinV s x k (giveV s k) t u g') q w w7 := HV6.out.step hC7 ⟨fun h => h.elim NE.out.1.1 NE.out.2.1, fun h => h.elim NE.out.1.2.1 NE.out.2.2.1, fun h => h.elim NE.out.1.2.2 NE.out.2.2.2⟩ (fun b hb h => h) hS7 (hT7.mono fun b _ h => h.1)
      have HV7 := Lib.hid V7
      have hi6 : i < f.len := hil
      clear hwi hS7 hT7 hC7 V7 HV6 t6 ld6 hlo4
      go_wp2_with fail
      go_roundg (gk - 1)
      case measure => have := HQ0.out; omega
      case rel => exact ⟨i + 1, u, a1.app (Fr.one x k), rest, _, by have := HQ0.out; omega, rfl, by simp, by rw [HF.out, Fr.app_assoc]; rfl, by rw [Fr.len_app, HAI.out]; rfl, HV7.out, HSP.out.2.2.2, HSP.out.2.1, HGV.out⟩
set_option maxRecDepth 3000 in
theorem mgive_ok (hs : s.length ≤ 60000) (hN : NumOk Nm) (f : Fr) : GiveC s Nm tb r lo f :=
  (all_of (C := GiveC s Nm tb r lo) (fun f hA => give_any hs hN f fun a x k c hf => by
    rw [hf, AllK.app] at hA
    exact within_any hs hN hA.2.1) f).1
end
end Go.Proofs.YtkomggeionofbaaGreatDoor
