/-
  Several texts of the proof: MatOn, MatQ.
-/
import Derived.Test.YtnjagecmhdagkaaDoorPk26
set_option linter.unusedSimpArgs false
set_option linter.unusedVariables false
/-
  Matches: a node without kids at a place, walked.
-/
namespace Go.Proofs.YtnjagecmhdagkaaDoor
open Go.RowKit

attribute [local go_sem ↓] zeroNode ldNode_eq stNode_eq ldSp_eq stSp_eq zeroSp
attribute [local go_sem] loadNode loadNode_if storeNode storeNode_if ndA_one_slice loadSp loadSp_if storeSp storeSp_if spC_one tx_bt
set_option maxRecDepth 3000 in
theorem oneI_some {x : NdV} {s : List UInt8} {a : Nat} {g : Spn} {k : Nat} (h : oneV x s a g = some k) : oneI x s a g = k := by unfold oneI; rw [h]
set_option maxRecDepth 3000 in
theorem oneI_none {x : NdV} {s : List UInt8} {a : Nat} {g : Spn} (h : oneV x s a g = none) : oneI x s a g = -1 := by unfold oneI; rw [h]
set_option maxRecDepth 100000 in
set_option maxHeartbeats 4000000 in
theorem one_any (x : NdV) (K : Option Addr) (kl kc : Nat) (s : List UInt8) (a : Nat) (g : Spn) (w : World) (hg : SpIn s.length g) (ha : a ≤ s.length) (hn : x.kind = 6 → x.n < 10) (hs : s.length ≤ 60000) :
    Calls Tryd.prog 45 #[.agg (ndC x (.slice K kl kc)), .string (tx s), .int .i64 a, spV g] w fun e w' => e = .returned (.int .i64 (oneI x s a g)) ∧ Grows w w' := by
  have hgl := hg.len
  have hsz : (spC g).size = 20 := by rw [spC_size]; exact hgl
  obtain ⟨R, hR⟩ : ∃ R, oneI x s a g = R := ⟨_, rfl⟩
  rw [hR]
  have HR := Lib.hid hR
  have HG := Lib.hid hg
  have HN := Lib.hid hn
  clear hR hg hn
  go_enter Tryd.func45, Tryd.ntmps45
  go_upto_region 1 with fail
  have HT := Lib.hid (TwoAt.start w (ndC x (.slice K kl kc)) (spC g) 74 23)
  generalize (w.alloc (Obj.cells (ndC x (Value.slice K kl kc)) 74)).alloc (Obj.cells (spC g) 23) = w2 at *
  have pz : 0 < (ndC x (.slice K kl kc)).size := by simp [ndA_size]
  have c0 := (Blk.cell HT.out.fst pz 0).trans (ndA_0 _ _ _ _ _ _ _)
  have c1 := (Blk.cell HT.out.fst pz 1).trans (ndA_1 _ _ _ _ _ _ _)
  have c258 := (Blk.cell HT.out.fst pz 258).trans (ndA_258 _ _ _ _ _ _ _)
  have cs : ∀ c, c < 256 → w2.cell? ⟨w.heap.size, 2 + c, none⟩ = some (.bool (x.set c)) := fun c hc => (Blk.cell HT.out.fst pz (2 + c)).trans (ndA_set _ _ _ _ _ _ _ c hc)
  have cg : ∀ k, k < 20 → w2.cell? ⟨w.heap.size + 1, k, none⟩ = some (.int .i64 (g.getD k 0)) := fun k hk => (Blk.cell HT.out.snd (by omega) k).trans (spC_get (by omega))
  have CS := Lib.hid cs
  have CG := Lib.hid cg
  clear cs cg pz
  by_cases h4 : x.kind = 4
  · have b4 : ((x.kind : Int) == 4) = true := by simp; omega
    by_cases h0 : a = 0
    · have e0 : ((a : Int) == 0) = true := by simp; omega
      have hR : R = 0 := by rw [← HR.out]; exact oneI_some (by unfold oneV; rw [if_pos h4, if_pos h0])
      subst hR
      clear HR h4 h0
      go_wp2_with fail
      go_ret
      exact ⟨rfl, HT.out.grows⟩
    · have e0 : ((a : Int) == 0) = false := by simp; omega
      have hR : R = -1 := by rw [← HR.out]; exact oneI_none (by unfold oneV; rw [if_pos h4, if_neg h0])
      subst hR
      clear HR h4 h0
      go_wp2_with fail
      go_ret
      exact ⟨rfl, HT.out.grows⟩
  have b4 : ((x.kind : Int) == 4) = false := by simp; omega
  by_cases h5 : x.kind = 5
  · have b5 : ((x.kind : Int) == 5) = true := by simp; omega
    by_cases h0 : a = s.length
    · have e0 : ((a : Int) == (s.length : Int)) = true := by simp; omega
      have hR : R = 0 := by rw [← HR.out]; exact oneI_some (by unfold oneV; rw [if_neg h4, if_pos h5, if_pos h0])
      subst hR
      clear HR h4 h5 h0
      go_wp2_with fail
      go_ret
      exact ⟨rfl, HT.out.grows⟩
    · have e0 : ((a : Int) == (s.length : Int)) = false := by simp; omega
      have hR : R = -1 := by rw [← HR.out]; exact oneI_none (by unfold oneV; rw [if_neg h4, if_pos h5, if_neg h0])
      subst hR
      clear HR h4 h5 h0
      go_wp2_with fail
      go_ret
      exact ⟨rfl, HT.out.grows⟩
  have b5 : ((x.kind : Int) == 5) = false := by simp; omega
  by_cases h6 : x.kind = 6
  · have b6 : ((x.kind : Int) == 6) = true := by simp; omega
    have hnx := HN.out h6
    have hlo := HG.out.lo x.n hnx
    have g0 : w2.cell? ⟨w.heap.size + 1, x.n * 2, none⟩ = some (.int .i64 (spA g x.n)) := by rw [CG.out _ (by omega), Nat.mul_comm]; rfl
    have g1 : w2.cell? ⟨w.heap.size + 1, x.n * 2 + 1, none⟩ = some (.int .i64 (spB g x.n)) := by rw [CG.out _ (by omega), Nat.mul_comm]; rfl
    obtain ⟨F, hF⟩ : ∃ F, spA g x.n = F := ⟨_, rfl⟩
    obtain ⟨T, hT⟩ : ∃ T, spB g x.n = T := ⟨_, rfl⟩
    rw [hF, hT] at hlo
    rw [hF] at g0
    rw [hT] at g1
    have hV : oneV x s a g = if 0 ≤ F ∧ T - F ≤ (s.length : Int) - a ∧ (s.drop F.toNat).take (T - F).toNat = (s.drop a).take (T - F).toNat then some (T - F).toNat else none := by
      unfold oneV
      rw [if_neg h4, if_neg h5, if_pos h6, hF, hT]
    have HV := Lib.hid hV
    have HH := Lib.hid hlo
    have hgx : x.n * 2 + 1 < 20 := by omega
    have hT6 : T ≤ 60000 := by omega
    have hFm : -1 ≤ F := hlo.1
    have hFT : F ≤ T := hlo.2.1
    have hTs : T ≤ (s.length : Int) := hlo.2.2
    clear hV hlo hF hT h4 h5
    go_upto_region 11 with fail
    clear b4 b5 b6 h6
    by_cases hF0 : 0 ≤ F
    · obtain ⟨f, rfl⟩ : ∃ f : Nat, F = f := ⟨F.toNat, by omega⟩
      obtain ⟨t, rfl⟩ : ∃ f : Nat, T = f := ⟨T.toNat, by omega⟩
      by_cases hfit : (t : Int) - f ≤ (s.length : Int) - a
      · obtain ⟨d, hd⟩ : ∃ d, t = f + d := ⟨t - f, by omega⟩
        have eT : (t : Int) - f = d := by omega
        have eTn : ((t : Int) - f).toNat = d := by omega
        have hV2 : oneV x s a g = if (s.drop f).take d = (s.drop a).take d then some d else none := by
          rw [HV.out, eTn]
          simp only [Int.toNat_natCast, hF0, hfit, true_and]
        have eA : (a : Int) + t - f = ((a + d : Nat) : Int) := by omega
        have htl : t ≤ s.length := by omega
        have hft : f ≤ t := by omega
        have had : a + d ≤ s.length := by omega
        have hdi : (d : Int) ≤ (s.length : Int) - a := by omega
        have HV2 := Lib.hid hV2
        clear hV2 HV eTn hd hTs hFm hFT HH hT6 hfit
        have e1 : (tx s).extract f t = tx ((s.drop f).take d) := by rw [tx_mid, show t - f = d by omega]
        have e2 : (tx s).extract a (a + d) = tx ((s.drop a).take d) := by rw [tx_mid, Nat.add_sub_cancel_left]
        have E1 := Lib.hid e1
        have E2 := Lib.hid e2
        clear e1 e2
        by_cases hsame : (s.drop f).take d = (s.drop a).take d
        · have hcmp : (((tx s).extract f t).toList == ((tx s).extract a (a + d)).toList) = true := str_eq (by rw [E1.out, E2.out, hsame])
          have hR : R = d := by rw [← HR.out]; exact oneI_some (by rw [HV2.out, if_pos hsame])
          subst hR
          clear hsame HR
          go_quiet (fail)
          go_wp2_with fail
          go_quiet (fail)
          go_wp2_with fail
          go_ret
          exact ⟨rfl, by repeat' first | exact HT.out.grows | refine Grows.drewN ?_ _ | refine Grows.drew ?_⟩
        · have hcmp : (((tx s).extract f t).toList == ((tx s).extract a (a + d)).toList) = false := str_ne (by rw [E1.out, E2.out]; exact fun e => hsame (tx_inj e))
          have hR : R = -1 := by rw [← HR.out]; exact oneI_none (by rw [HV2.out, if_neg hsame])
          subst hR
          clear hsame HR
          go_quiet (fail)
          go_wp2_with fail
          go_quiet (fail)
          go_wp2_with fail
          go_ret
          exact ⟨rfl, by repeat' first | exact HT.out.grows | refine Grows.drewN ?_ _ | refine Grows.drew ?_⟩
      · have hR : R = -1 := by rw [← HR.out]; exact oneI_none (by rw [HV.out, if_neg fun h => hfit h.2.1])
        have hfb : decide ((t : Int) - f ≤ (s.length : Int) - a) = false := decide_eq_false hfit
        subst hR
        go_quiet (fail)
        go_wp2_with fail
        go_quiet (fail)
        go_wp2_with fail
        go_ret
        exact ⟨rfl, by repeat' first | exact HT.out.grows | refine Grows.drewN ?_ _ | refine Grows.drew ?_⟩
    · have hR : R = -1 := by rw [← HR.out]; exact oneI_none (by rw [HV.out, if_neg fun h => hF0 h.1])
      have hfb : decide (0 ≤ F) = false := decide_eq_false hF0
      subst hR
      go_quiet (fail)
      go_wp2_with fail
      go_quiet (fail)
      go_wp2_with fail
      go_ret
      exact ⟨rfl, by repeat' first | exact HT.out.grows | refine Grows.drewN ?_ _ | refine Grows.drew ?_⟩
  have b6 : ((x.kind : Int) == 6) = false := by simp; omega
  have hV : oneV x s a g = if a < s.length ∧ (x.kind = 2 ∨ (x.kind = 3 ∧ x.set (ch s a) = true) ∨ (x.kind = 1 ∧ x.byte = ch s a)) then some 1 else none := by
    unfold oneV
    rw [if_neg h4, if_neg h5, if_neg h6]
  have HV := Lib.hid hV
  clear hV h4 h5 h6
  by_cases hlt : a < s.length
  · have hbl := bt_lt s a
    have hcs := CS.out (bt s a) hbl
    have hch : ch s a = bt s a := rfl
    have HV2 : Hid (oneV x s a g = if x.kind = 2 ∨ (x.kind = 3 ∧ x.set (bt s a) = true) ∨ (x.kind = 1 ∧ x.byte = bt s a) then some 1 else none) := Lib.hid (by
      rw [HV.out, hch]
      simp only [hlt, true_and])
    clear HV hch
    obtain ⟨C, hC⟩ : ∃ C, bt s a = C := ⟨_, rfl⟩
    rw [hC] at hcs HV2 hbl
    by_cases h2 : x.kind = 2
    · have b2 : ((x.kind : Int) == 2) = true := by simp; omega
      have hR : R = 1 := by rw [← HR.out]; exact oneI_some (by rw [HV2.out, if_pos (.inl h2)])
      subst hR
      clear HR HV2 h2
      go_upto_region 2 with fail
      go_quiet (fail)
      go_wp2_with fail
      go_ret
      exact ⟨rfl, by repeat' first | exact HT.out.grows | refine Grows.drewN ?_ _ | refine Grows.drew ?_⟩
    have b2 : ((x.kind : Int) == 2) = false := by simp; omega
    by_cases h3 : x.kind = 3
    · have b3 : ((x.kind : Int) == 3) = true := by simp; omega
      have b1 : ((x.kind : Int) == 1) = false := by simp; omega
      cases hp : x.set C with
      | true =>
        rw [hp] at hcs
        have hR : R = 1 := by rw [← HR.out]; exact oneI_some (by rw [HV2.out, if_pos (.inr (.inl ⟨h3, hp⟩))])
        subst hR
        clear HR HV2 h2 h3 hp
        go_upto_region 2 with fail
        go_quiet (fail)
        go_wp2_with fail
        go_ret
        exact ⟨rfl, by repeat' first | exact HT.out.grows | refine Grows.drewN ?_ _ | refine Grows.drew ?_⟩
      | false =>
        rw [hp] at hcs
        have hR : R = -1 := by rw [← HR.out]; exact oneI_none (by rw [HV2.out, if_neg]; rintro (h | ⟨-, h⟩ | ⟨h, -⟩); exact h2 h; rw [hp] at h; cases h; omega)
        subst hR
        clear HR HV2 h2 h3 hp
        go_upto_region 2 with fail
        go_quiet (fail)
        go_wp2_with fail
        go_ret
        exact ⟨rfl, by repeat' first | exact HT.out.grows | refine Grows.drewN ?_ _ | refine Grows.drew ?_⟩
    have b3 : ((x.kind : Int) == 3) = false := by simp; omega
    by_cases h1 : x.kind = 1
    · have b1 : ((x.kind : Int) == 1) = true := by simp; omega
      by_cases hb : x.byte = C
      · have bb : ((x.byte : Int) == (C : Int)) = true := by simp; omega
        have hR : R = 1 := by rw [← HR.out]; exact oneI_some (by rw [HV2.out, if_pos (.inr (.inr ⟨h1, hb⟩))])
        subst hR
        clear HR HV2 h1 h2 h3 hb
        go_upto_region 2 with fail
        go_quiet (fail)
        go_wp2_with fail
        go_ret
        exact ⟨rfl, by repeat' first | exact HT.out.grows | refine Grows.drewN ?_ _ | refine Grows.drew ?_⟩
      · have bb : ((x.byte : Int) == (C : Int)) = false := by simp; omega
        have hR : R = -1 := by rw [← HR.out]; exact oneI_none (by rw [HV2.out, if_neg]; rintro (h | ⟨h, -⟩ | ⟨-, h⟩); exact h2 h; exact h3 h; exact hb h)
        subst hR
        clear HR HV2 h1 h2 h3 hb
        go_upto_region 2 with fail
        go_quiet (fail)
        go_wp2_with fail
        go_ret
        exact ⟨rfl, by repeat' first | exact HT.out.grows | refine Grows.drewN ?_ _ | refine Grows.drew ?_⟩
    have b1 : ((x.kind : Int) == 1) = false := by simp; omega
    have hR : R = -1 := by rw [← HR.out]; exact oneI_none (by rw [HV2.out, if_neg]; rintro (h | ⟨h, -⟩ | ⟨h, -⟩); exact h2 h; exact h3 h; exact h1 h)
    subst hR
    clear HR HV2 h1 h2 h3
    go_upto_region 2 with fail
    go_quiet (fail)
    go_wp2_with fail
    go_ret
    exact ⟨rfl, by repeat' first | exact HT.out.grows | refine Grows.drewN ?_ _ | refine Grows.drew ?_⟩
  · have hlb : decide (a < s.length) = false := decide_eq_false hlt
    have hR : R = -1 := by rw [← HR.out]; exact oneI_none (by rw [HV.out, if_neg fun h => hlt h.1])
    subst hR
    clear HR HV hlt
    go_upto_region 2 with fail
    go_quiet (fail)
    go_wp2_with fail
    go_ret
    exact ⟨rfl, by repeat' first | exact HT.out.grows | refine Grows.drewN ?_ _ | refine Grows.drew ?_⟩
end Go.Proofs.YtnjagecmhdagkaaDoor

/-
  Matches: no places; no stretches.
-/
namespace Go.Proofs.YtnjagecmhdagkaaDoor
open Go.RowKit

set_option maxRecDepth 3000 in
theorem zeroW (w : World) : (zeroValue 109).run Tryd.prog w = .ok (.int .u64 0) w := by kernel_rfl
set_option maxRecDepth 3000 in
theorem wordsA_none (W : Nat) : wordsA W (fun _ => false) = Array.replicate W (.int .u64 0) := by
  apply Array.ext_getElem?
  intro j
  by_cases hj : j < W
  · rw [wordsA_get _ hj, word_none]
    simp [hj]
  · rw [Array.getElem?_eq_none (by rw [wordsA_size]; omega), Array.getElem?_eq_none (by simp; omega)]
/-- How many words a text of n bytes has. -/
def wds (n : Nat) : Nat := n / 64 + 1
set_option maxRecDepth 3000 in
theorem wds_le {n : Nat} (h : n ≤ 60000) : wds n ≤ 1000 := by unfold wds; omega
set_option maxRecDepth 3000 in
theorem wds_lt {n a : Nat} (h : a ≤ n) : a < 64 * wds n := by unfold wds; omega
set_option maxRecDepth 3000 in
theorem infoW : (Tryd.prog.info? 109).map (fun i => (i.zero, i.size, i.bytes)) = some (some (.int .u64 0), 1, 8) := by kernel_rfl
set_option maxRecDepth 3000 in
theorem made_words (n : Nat) : madeCells #[Value.int .u64 0] (n + 1) = wordsA (n + 1) (fun _ => false) := by
  rw [wordsA_none]
  apply Array.ext_getElem?
  intro j
  simp [madeCells, Array.getElem?_ofFn]
  by_cases hj : j < n + 1
  · simp [hj, Nat.mod_one]
  · simp [hj]
set_option maxRecDepth 3000 in
theorem make_words (n : Nat) (h : n ≤ 1000) (w : World) : (Instr.makeSlice 91 (.int .i64 ((n : Int) + 1)) (.int .i64 ((n : Int) + 1))).run Tryd.prog w = .ok (plV w.heap.size (n + 1)) (w.alloc (.cells (wordsA (n + 1) (fun _ => false)) 109)) := by
  have hq := infoW
  cases hi : Tryd.prog.info? 109 with
  | none => rw [hi] at hq; cases hq
  | some i0 =>
  rw [hi] at hq
  simp only [Option.map_some, Option.some.injEq, Prod.mk.injEq] at hq
  obtain ⟨hz0, hz1, hz2⟩ := hq
  have := run_make (P := Tryd.prog) w 91 109 i0 _ Tryd.underlying91 hi hz0 .i64 .i64 ((n : Int) + 1) ((n : Int) + 1) (by omega) (by omega) (by rw [hz2]; omega) (by omega)
  rw [hz1] at this
  rw [this]
  have e : ((n : Int) + 1).toNat = n + 1 := by omega
  rw [e, Nat.mul_one]
  rw [show (Value.int .u64 0).cells = #[Value.int .u64 0] from rfl, made_words]
set_option maxRecDepth 3000 in
set_option maxHeartbeats 1000000 in
theorem empty_any {w : World} {tb r : Nat} {s : List UInt8} (hb : blk w tb = #[.string (tx s), .map (some r)]) (hs : s.length ≤ 60000) :
    Calls Tryd.prog 46 #[.pointer (some ⟨tb, 0, none⟩)] w fun e w' => ∃ b, e = .returned (plV b (wds s.length)) ∧ PlAt w' b (wds s.length) (fun _ => false) ∧ w.heap.size ≤ b ∧ Grows w w' := by
  have c0 : w.cell? ⟨tb, 0, none⟩ = some (.string (tx s)) := Blk.cell hb (by simp) 0
  have hd : (s.length : Int) / 64 = ((s.length / 64 : Nat) : Int) := by omega
  have hwj : IntKind.i64.wrap ((s.length / 64 : Nat) : Int) = ((s.length / 64 : Nat) : Int) := wrap_small (by omega) (by omega)
  have hL : s.length / 64 ≤ 1000 := by omega
  unfold wds
  generalize s.length / 64 = L at *
  go_enter Tryd.func46, Tryd.ntmps46
  have hmk := make_words L hL w
  go_wp2_with fail
  go_ret
  exact ⟨_, rfl, ⟨blk_alloc_at _ _ _ _ rfl, by omega⟩, Nat.le_refl _, (Grows.refl _).alloc _⟩
/-- Some groups have no stretch by now. -/
def fillN (i : Nat) : Spn := List.replicate (2 * i) (-1) ++ List.replicate (20 - 2 * i) 0
set_option maxRecDepth 3000 in
theorem fillN_next {i : Nat} (h : i < 10) : spSet (fillN i) i (-1) (-1) = fillN (i + 1) := by
  have : ∀ i : Fin 10, spSet (fillN i) i (-1) (-1) = fillN (i + 1) := by decide
  exact this ⟨i, h⟩
set_option maxRecDepth 3000 in
theorem sp_put {w : World} {g k : Nat} {l : Spn} (h : blk w g = spC l) (hl : l.length = 20) (a b : Int) : blk ((w.setCell ⟨g, k * 2, none⟩ (.int .i64 a)).setCell ⟨g, k * 2 + 1, none⟩ (.int .i64 b)) g = spC (spSet l k a b) := by
  have hz : 0 < (spC l).size := by rw [spC_size]; omega
  have h1 := pa_put h hz (k * 2) (.int .i64 a)
  rw [pa_put h1 (by rw [Array.size_setIfInBounds]; exact hz), Nat.mul_comm k 2]
  exact spC_set2 l k a b
set_option maxRecDepth 3000 in
theorem sp_chg (w : World) (g k : Nat) (a b : Value) : Chg (fun x => x = g) w ((w.setCell ⟨g, k * 2, none⟩ a).setCell ⟨g, k * 2 + 1, none⟩ b) := (chg_cell _ _ _ _).trans (chg_cell _ _ _ _)
set_option maxRecDepth 3000 in
theorem fillN_len (i : Nat) (h : i ≤ 10) : (fillN i).length = 20 := by simp [fillN]; omega
attribute [local go_sem ↓] ldSp_eq stSp_eq zeroSp
attribute [local go_sem] loadSp loadSp_if storeSp storeSp_if spC_one
set_option maxRecDepth 3000 in
theorem loadVarSp {w : World} {g : Nat} {c : Array Value} (h : blk w g = c) (hc : c.size = 20) : (loadVar 23 ⟨g, 0, none⟩).run Tryd.prog w = .ok (.agg c) w := by
  have h1 := loadSp_all w g c h hc
  have h2 : (Instr.loadAt 23 (.pointer (some ⟨g, 0, none⟩))).run Tryd.prog w = _ := h1
  simpa [Instr.loadAt, Instr.sureAddr] using h2
set_option maxRecDepth 3000 in
theorem results_sp {fn : Func} {T : Array Value} {w : World} {b : Nat} {c : Array Value} (k : Nat) (h : fn.results = #[.cell k 23]) (hT : T.getD k undef = .pointer (some ⟨b, 0, none⟩)) (hb : blk w b = c) (hc : c.size = 20) : (results fn T).run Tryd.prog w = .ok (.agg c) w := by
  have := loadVarSp hb hc
  rw [Array.getD_eq_getD_getElem?] at hT
  simp [results, h, hT, asAddr, this]
set_option maxRecDepth 3000 in
set_option maxHeartbeats 1000000 in
theorem none_any (w : World) : Calls Tryd.prog 29 #[] w fun e w' => e = .returned (spV spNone) ∧ Grows w w' := by
  go_enter Tryd.func29, Tryd.ntmps29
  go_wp2_with fail
  have hb0 : blk (w.alloc (.cells (spC spZero) 23)) w.heap.size = spC (fillN 0) := blk_alloc_at _ _ _ _ rfl
  have hg0 : Grows w (w.alloc (.cells (spC spZero) 23)) := (Grows.refl _).alloc _
  generalize w.alloc (.cells (spC spZero) 23) = w0 at *
  go_loopg [1, 2] 10 (fun q v1 v2 wr => ∃ i : Nat, q + i = 10 ∧ v2 = .int .i64 i ∧ blk wr w.heap.size = spC (fillN i) ∧ Chg (fun b => b = w.heap.size) w0 wr)
  case atStart => exact ⟨0, by omega, rfl, hb0, Chg.refl _ _⟩
  case round =>
    obtain ⟨i, hq, rfl, hb, hc⟩ := hrel
    have HB := Lib.hid hb
    have HC := Lib.hid hc
    have hi10 : i ≤ 10 := by omega
    have hl := fillN_len i hi10
    have hz : 0 < (spC (fillN i)).size := by rw [spC_size, hl]; decide
    have ig : InHeap w.heap.size wr := Blk.inHeap hb hz
    have hfr : ∀ k, wr.frozen? ⟨w.heap.size, k, none⟩ = false := fun k => Blk.free hb hz k
    by_cases hi : i < 10
    · have d0 := (Blk.cell hb hz (i * 2)).trans (spC_get (by omega))
      have d1 := (Blk.cell hb hz (i * 2 + 1)).trans (spC_get (by omega))
      have hii : (i : Int) < 10 := by omega
      have hn := fillN_next hi
      have HN := Lib.hid hn
      have HL := Lib.hid hl
      clear hb hc hz hl hn hi10
      generalize (fillN i).getD (i * 2) 0 = e0 at d0
      generalize (fillN i).getD (i * 2 + 1) 0 = e1 at d1
      go_wp2_with fail
      go_roundg (gk - 1)
      case measure => omega
      case rel => exact ⟨i + 1, by omega, by simp, by rw [← HN.out]; exact sp_put HB.out HL.out _ _, HC.out.trans (sp_chg _ _ _ _ _)⟩
    · have hii : ¬ (i : Int) < 10 := by omega
      have hin : decide (i < 10) = false := decide_eq_false hi
      have hI : i = 10 := by omega
      have hf : fillN i = spNone := by rw [hI]; decide
      have HF := Lib.hid hf
      rw [hf] at hb hz hl
      have hl2 := loadSp_all wr w.heap.size (spC spNone) hb (by rw [spC_size]; rfl)
      have hl3 := storeSp_all wr w.heap.size (spC spNone) hb (by rw [spC_size]; rfl) (by rw [spC_size]; rfl) (spC_one _)
      rw [Blk.same hb hz] at hl3
      clear hI hf hl hz hb hi10 hq
      go_wp2_with fail
      exact bodyPost_ret (results_sp 0 rfl rfl (by rw [HB.out, HF.out]) (by rw [spC_size]; rfl)) rfl ⟨rfl, Chg.grows (n := 0) hg0 HC.out fun b e => by subst e; exact Nat.le_refl _⟩
end Go.Proofs.YtnjagecmhdagkaaDoor
