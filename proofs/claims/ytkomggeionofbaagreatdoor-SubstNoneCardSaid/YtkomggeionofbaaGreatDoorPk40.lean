/-
  Matches by all ways: the best way so far, walked.
-/
import Derived.Test.YtkomggeionofbaaGreatDoorPk37
import Derived.Test.YtkomggeionofbaaGreatDoorPk39
set_option linter.unusedSimpArgs false
set_option linter.unusedVariables false
namespace Go.Proofs.YtkomggeionofbaaGreatDoor
open Go.RowKit

/-- Whether a way is better than the best so far. -/
def allT (σ : Sg) (e : Nat) (ws : Wy) : Bool := match σ.best with
  | none => true
  | some (g0, w0) => decide (spB g0 0 < e) || (decide (spB g0 0 = e) && decide (0 < betterV ws w0))
/-- A way is told: it is kept, if it is better. -/
def allK (a0 : Nat) (e : Nat) (g : Spn) (ws : Wy) (σ : Sg) : Sg := if allT σ e ws then { σ with best := some (spSet g 0 a0 e, ws) } else σ
set_option maxRecDepth 3000 in
theorem sr_kept {s : List UInt8} {fuel : Int} {sb rb ob : Nat} {σ : Sg} {w : World} {b0 : Value} {cr : Array Value} {bo : Bool} {g' : Spn} {ws : Wy} {A : Option Addr} {c : Nat} (hs : blk w sb = srC s fuel σ.spent b0 (.slice none 0 0)) (hr : blk w rb = cr) (hrs : cr.size = 20) (ho : blk w ob = #[.bool bo]) (hd : sb ≠ rb ∧ sb ≠ ob ∧ rb ≠ ob) (hg : g'.length = 20) (hws : WyAt (fun b => ¬ MutB sb rb ob b) w A c ws) :
    SrAt s fuel sb rb ob { σ with best := some (g', ws) } (((setBlk w rb (spC g')).setCell ⟨ob, 0, none⟩ (.bool true)).setCell ⟨sb, 3, none⟩ (.slice A ws.len c)).drew ∧ Chg (MutB sb rb ob) w (((setBlk w rb (spC g')).setCell ⟨ob, 0, none⟩ (.bool true)).setCell ⟨sb, 3, none⟩ (.slice A ws.len c)).drew := by
  obtain ⟨n1, n2, n3⟩ := hd
  have h1 : Chg (MutB sb rb ob) w (setBlk w rb (spC g')) := chg_setBlkM (.inr (.inl rfl))
  have o1 : blk (setBlk w rb (spC g')) ob = #[.bool bo] := (blk_setBlk_other _ _ _ _ n3.symm).trans ho
  have s1 : blk (setBlk w rb (spC g')) sb = srC s fuel σ.spent b0 (.slice none 0 0) := (blk_setBlk_other _ _ _ _ n1).trans hs
  have r1 : blk (setBlk w rb (spC g')) rb = spC g' := Blk.get _ hr (by omega)
  rw [Blk.set o1 (by simp) 0]
  have h2 : Chg (MutB sb rb ob) w (setBlk (setBlk w rb (spC g')) ob (#[Value.bool bo].setIfInBounds 0 (.bool true))) := h1.trans (chg_setBlkM (.inr (.inr rfl)))
  have o2 : blk (setBlk (setBlk w rb (spC g')) ob (#[Value.bool bo].setIfInBounds 0 (.bool true))) ob = #[Value.bool true] := Blk.get _ o1 (by simp)
  have s2 := (blk_setBlk_other (setBlk w rb (spC g')) ob sb (#[Value.bool bo].setIfInBounds 0 (.bool true)) n2).trans s1
  have r2 := (blk_setBlk_other (setBlk w rb (spC g')) ob rb (#[Value.bool bo].setIfInBounds 0 (.bool true)) n3).trans r1
  generalize setBlk (setBlk w rb (spC g')) ob (#[Value.bool bo].setIfInBounds 0 (.bool true)) = w2 at *
  rw [Blk.set s2 (by simp [srC]) 3]
  have h3 : Chg (MutB sb rb ob) w (setBlk w2 sb ((srC s fuel σ.spent b0 (.slice none 0 0)).setIfInBounds 3 (.slice A ws.len c))) := h2.trans (chg_setBlkM (.inl rfl))
  have o3 := (blk_setBlk_other w2 sb ob ((srC s fuel σ.spent b0 (.slice none 0 0)).setIfInBounds 3 (.slice A ws.len c)) n2.symm).trans o2
  have r3 := (blk_setBlk_other w2 sb rb ((srC s fuel σ.spent b0 (.slice none 0 0)).setIfInBounds 3 (.slice A ws.len c)) n1.symm).trans r2
  have s3 : blk (setBlk w2 sb ((srC s fuel σ.spent b0 (.slice none 0 0)).setIfInBounds 3 (.slice A ws.len c))) sb = srC s fuel σ.spent (.slice A ws.len c) (.slice none 0 0) := Blk.get _ s2 (by simp [srC])
  generalize setBlk w2 sb ((srC s fuel σ.spent b0 (.slice none 0 0)).setIfInBounds 3 (.slice A ws.len c)) = w3 at *
  refine ⟨SrAt.grows ?_ ((Grows.refl _).drew), chgDrew h3⟩
  exact ⟨A, ws.len, c, s3, rfl, hws.chg h3 (fun _ _ h => h), r3, hg, o3⟩
set_option maxRecDepth 3000 in
theorem enters_all1 : Enters 55 := enters_of Tryz.func55 (by kernel_rfl) rfl
attribute [local go_sem ↓] ldSp_eq stSp_eq zeroSp
attribute [local go_sem] loadSp loadSp_if storeSp storeSp_if spC_one
section
variable {s : List UInt8} {fuel : Int} {sb rb ob lo : Nat} {σ : Sg} {w w' : World}
set_option maxRecDepth 100000 in
set_option maxHeartbeats 8000000 in
theorem all1_any (a0 : Nat) (W0 : World) {bS bA : Nat} (hS : blk W0 bS = #[.pointer (some ⟨sb, 0, none⟩)]) (hA : blk W0 bA = #[.int .i64 a0]) (hne : ¬ MutB sb rb ob bS ∧ ¬ MutB sb rb ob bA) (hd : sb ≠ rb ∧ sb ≠ ob ∧ rb ≠ ob) (hmx : sb < W0.heap.size ∧ rb < W0.heap.size ∧ ob < W0.heap.size) (ha0 : a0 ≤ 60000) (hs : s.length ≤ 60000) :
    ContC s fuel sb rb ob W0 (.func (.func 55) #[] #[.pointer (some ⟨ob, 0, none⟩), .pointer (some ⟨rb, 0, none⟩), .pointer (some ⟨bS, 0, none⟩), .pointer (some ⟨bA, 0, none⟩)]) (allK a0) 0 := by
  refine ⟨_, _, rfl, enters_all1, fun a g ws A c σ w hc _ han hg hwy hwl hsr _ => ?_⟩
  have HSR := Lib.hid hsr
  obtain ⟨BA, bn, bc, hb1, hb2⟩ := hsr
  have hsz := hc.size
  have d1 := cellC (Blk.cell hS (by simp) 0) hc hne.1
  have d2 := cellC (Blk.cell hA (by simp) 0) hc hne.2
  have hgl := hg.len
  have hspz : (spC g).size = 20 := by rw [spC_size]; exact hgl
  have hfr : ∀ b, w.heap.size ≤ b → ¬ MutB sb rb ob b := fun b hb e => by unfold MutB at e; omega
  obtain ⟨T, hT⟩ : ∃ T, allT σ a ws = T := ⟨_, rfl⟩
  obtain ⟨gr, bo, hrb, hgr, hob, hno, hso⟩ : ∃ (gr : Spn) (bo : Bool), blk w rb = spC gr ∧ gr.length = 20 ∧ blk w ob = #[.bool bo] ∧ (σ.best = none → bo = false ∧ T = true) ∧ (∀ g0 w0, σ.best = some (g0, w0) → bo = true ∧ gr = g0 ∧ bn = w0.len ∧ WyAt (fun b => ¬ MutB sb rb ob b) w BA bc w0 ∧ (decide (spB g0 0 < a) || (decide (spB g0 0 = a) && decide (0 < betterV ws w0))) = T) := by
    cases hbest : σ.best with
    | none =>
      rw [hbest] at hb2
      obtain ⟨rfl, rfl, rfl, h1, h2⟩ := hb2
      exact ⟨spZero, false, h1, rfl, h2, fun _ => ⟨rfl, by rw [← hT]; unfold allT; rw [hbest]⟩, fun _ _ e => by cases e⟩
    | some y =>
      obtain ⟨g0, w0⟩ := y
      rw [hbest] at hb2
      obtain ⟨h1, h2, h3, h4, h5⟩ := hb2
      exact ⟨g0, true, h3, h4, h5, fun e => by (cases e), fun _ _ e => by
        cases e
        exact ⟨rfl, rfl, h1, h2, by rw [← hT]; unfold allT; rw [hbest]⟩⟩
  have HG := Lib.hid hg
  have HWY := Lib.hid hwy
  have HFR := Lib.hid hfr
  have ha6 : a ≤ 60000 := by omega
  have HBS : Hid (bS < w.heap.size ∧ bA < w.heap.size) := Lib.hid ⟨World.block_lt_of_cell? _ _ d1, World.block_lt_of_cell? _ _ d2⟩
  obtain ⟨S, hSe⟩ : ∃ S, allK a0 a g ws σ = S := ⟨_, rfl⟩
  rw [hSe]
  unfold allK at hSe
  rw [hT] at hSe
  have HSE := Lib.hid hSe
  have HNS : Hid (bS ≠ sb ∧ bS ≠ rb ∧ bS ≠ ob) := Lib.hid ⟨fun e => hne.1 (.inl e), fun e => hne.1 (.inr (.inl e)), fun e => hne.1 (.inr (.inr e))⟩
  have HNO := Lib.hid hno
  have HSO := Lib.hid hso
  have HMX : Hid (sb < w.heap.size ∧ rb < w.heap.size ∧ ob < w.heap.size) := Lib.hid ⟨by omega, by omega, by omega⟩
  have HNE := Lib.hid hne
  clear hS hA hne hsz hmx hg hwy hfr hSe hwl hc hno hso hb2 hT
  have hgA : Grows w (w.alloc (Obj.cells (spC g) 60)) := (Grows.refl _).alloc _
  have HGA := Lib.hid hgA
  go_enter Tryz.func55, Tryz.ntmps55
  go_upto_region 1 with fail
  obtain ⟨bG, hbGe⟩ : ∃ z, z = w.heap.size := ⟨_, rfl⟩
  have hSG : SpAt (w.alloc (Obj.cells (spC g) 60)) w.heap.size g := ⟨blk_alloc_at _ _ _ _ rfl, hgl⟩
  have hsz1 : (w.alloc (Obj.cells (spC g) 60)).heap.size = w.heap.size + 1 := by simp
  rw [← hbGe] at hSG ⊢
  have e1 := cellG d1 hgA
  have e2 := cellG d2 hgA
  have hsb1 := blkG hb1 (by simp [srC]) hgA
  have hrb1 := blkG hrb (by rw [spC_size, hgr]; decide) hgA
  have hob1 := blkG hob (by simp) hgA
  have HWYA := Lib.hid (HWY.out.grows hgA)
  have HSO1 : Hid (∀ g0 w0, σ.best = some (g0, w0) → bo = true ∧ gr = g0 ∧ bn = w0.len ∧ WyAt (fun b => ¬ MutB sb rb ob b) (w.alloc (Obj.cells (spC g) 60)) BA bc w0 ∧ (decide (spB g0 0 < a) || (decide (spB g0 0 = a) && decide (0 < betterV ws w0))) = T) := Lib.hid fun g0 w0 h => by
    obtain ⟨h1, h2, h3, h4, h5⟩ := HSO.out g0 w0 h
    exact ⟨h1, h2, h3, h4.grows hgA, h5⟩
  have HBG := Lib.hid hbGe
  clear d1 d2 hb1 hrb hob HSO hgA hbGe
  generalize w.alloc (Obj.cells (spC g) 60) = w1 at *
  have HSZ1 := Lib.hid hsz1
  have HSG := Lib.hid hSG
  have HE2 := Lib.hid e2
  have hgrs : (spC gr).size = 20 := by rw [spC_size]; exact hgr
  have isb := Blk.inHeap hsb1 (by simp [srC])
  have o0 : w1.cell? ⟨ob, 0, none⟩ = some (.bool bo) := Blk.cell hob1 (by simp) 0
  have r1 : w1.cell? ⟨rb, 1, none⟩ = some (.int .i64 (gr.getD 1 0)) := (Blk.cell hrb1 (by omega) 1).trans (spC_get (by omega))
  have s3 : w1.cell? ⟨sb, 3, none⟩ = some (.slice BA bn bc) := Blk.cell hsb1 (by simp [srC]) 3
  have iob := Blk.inHeap hob1 (by simp)
  have irb := Blk.inHeap hrb1 (by omega)
  have HSB := Lib.hid hsb1
  have HRB := Lib.hid hrb1
  have HOB := Lib.hid hob1
  clear hsz1 hSG e2 hsb1 hrb1 hob1
  go_cut [34] (fun v34 wx => v34 = .bool T ∧ Grows w1 wx)
  case first =>
    cases hbest : σ.best with
    | none =>
      obtain ⟨rfl, rfl⟩ := HNO.out hbest
      go_wp2_with fail
      go_meet
      exact ⟨rfl, Grows.refl _⟩
    | some y =>
      obtain ⟨g0, w0⟩ := y
      obtain ⟨rfl, rfl, rfl, hw0, hTT⟩ := HSO1.out g0 w0 hbest
      have HTT := Lib.hid hTT
      obtain ⟨z1, hz1⟩ : ∃ z, gr.getD 1 0 = z := ⟨_, rfl⟩
      rw [hz1] at r1
      have hz2 : spB gr 0 = z1 := hz1
      by_cases k1 : z1 < (a : Int)
      · have b1 : decide (z1 < (a : Int)) = true := decide_eq_true k1
        obtain rfl : true = T := by rw [← HTT.out, hz2, b1]; rfl
        clear hTT hz1 hz2 hw0
        go_wp2_with fail
        go_meet
        exact ⟨rfl, Grows.refl _⟩
      have b1 : decide (z1 < (a : Int)) = false := decide_eq_false k1
      by_cases k2 : z1 = (a : Int)
      · have b2 : ((a : Int) == z1) = true := by rw [k2]; exact beq_self_eq_true _
        obtain ⟨BV, hBV⟩ : ∃ z, betterV ws w0 = z := ⟨_, rfl⟩
        have hTv : decide (0 < BV) = T := by rw [← HTT.out, hz2, b1, decide_eq_true k2, hBV]; simp
        have hcall := better_any ws w0 _ A c BA bc w1 HWYA.out hw0 HWYA.out.sm hw0.sm
        rw [hBV] at hcall
        clear hTT hz1 hz2 hw0 k2 hBV HTT
        go_wp2_with fail
        (with_reducible refine hcall.mono ?_)
        rintro e9 w3 ⟨rfl, hg3⟩
        go_wp2_with fail
        go_meet
        exact ⟨by rw [← hTv], hg3⟩
      · have b2 : ((a : Int) == z1) = false := by rw [beq_eq_false_iff_ne]; exact fun e => k2 e.symm
        obtain rfl : false = T := by rw [← HTT.out, hz2, b1, decide_eq_false k2]; rfl
        clear hTT hz1 hz2 hw0
        go_wp2_with fail
        go_meet
        exact ⟨rfl, Grows.refl _⟩
  case rest =>
    obtain ⟨rfl, hgw⟩ := hcut
    have HS2 := Lib.hid (HSG.out.grows hgw)
    have e1' := cellG e1 hgw
    have e2' := cellG HE2.out hgw
    have sb2 := blkG HSB.out (by simp [srC]) hgw
    have rb2 := blkG HRB.out (by omega) hgw
    have ob2 := blkG HOB.out (by simp) hgw
    have HG2 := Lib.hid (HGA.out.trans hgw)
    have hwz := hgw.below.size
    clear e1 o0 r1 s3 isb iob irb hgw
    cases T with
    | false =>
      have hs := HSE.out
      rw [if_neg Bool.false_ne_true] at hs
      subst hs
      have HSR2 := HSR.out.grows HG2.out
      go_wp2_with fail
      exact ⟨rfl, .tuple #[], results_none rfl _ _ _, rfl, HSR2, Chg.of_grows HG2.out⟩
    | true =>
      have hSx := HSE.out
      rw [if_pos rfl] at hSx
      have HSX := Lib.hid hSx
      have hnG : ¬ MutB sb rb ob bG := by rw [HBG.out]; exact HFR.out _ (Nat.le_refl _)
      have hnG2 : bG ≠ sb ∧ bG ≠ rb ∧ bG ≠ ob := ⟨fun e => hnG (.inl e), fun e => hnG (.inr (.inl e)), fun e => hnG (.inr (.inr e))⟩
      have nSG : bS ≠ bG := fun e => by have h1 := HBS.out.1; have h2 := HBG.out; omega
      have gf := HS2.out.free
      have iG : InHeap bG wc := HS2.out.inh
      have hS3 := HS2.out.put 0 a0 a
      have hc3 := sp_chg wc bG 0 (.int .i64 a0) (.int .i64 a)
      rw [Nat.zero_mul] at hS3 hc3
      have bS3 := cellC e1' hc3 nSG
      have sb3 := (chg_blk hc3 (Blk.inHeap sb2 (by simp [srC])) (fun e => hnG2.1 e.symm)).trans sb2
      have rb3 := (chg_blk hc3 (Blk.inHeap rb2 (by omega)) (fun e => hnG2.2.1 e.symm)).trans rb2
      have ob3 := (chg_blk hc3 (Blk.inHeap ob2 (by simp)) (fun e => hnG2.2.2 e.symm)).trans ob2
      have hgW3 : Grows w ((wc.setCell ⟨bG, 0, none⟩ (.int .i64 a0)).setCell ⟨bG, 0 + 1, none⟩ (.int .i64 a)) := Chg.grows (n := 0) HG2.out hc3 fun b hb => by have h2 := HBG.out; omega
      have HGW3 : Hid (Grows w _) := Lib.hid hgW3
      have HB3 : Hid (_ ∧ _ ∧ _ ∧ _) := Lib.hid ⟨sb3, rb3, ob3, bS3⟩
      have HS3 := Lib.hid hS3
      have s2c0 := HS2.out.cell (k := 0) (by omega)
      have s2c1 := HS2.out.cell (k := 1) (by omega)
      obtain ⟨z0, hz0⟩ : ∃ z, g.getD 0 0 = z := ⟨_, rfl⟩
      obtain ⟨z1, hz1⟩ : ∃ z, g.getD 1 0 = z := ⟨_, rfl⟩
      rw [hz0] at s2c0
      rw [hz1] at s2c1
      clear hz0 hz1 hc3 hSx sb2 rb2 ob2 e1' sb3 rb3 ob3 bS3 hgW3 hS3 hnG
      go_upto_region 3 with fail
      clear s2c0 s2c1 gf e2'
      obtain ⟨sb3, rb3, ob3, bS3⟩ := HB3.out
      clear HB3
      generalize (wc.setCell ⟨bG, 0, none⟩ (.int .i64 a0)).setCell ⟨bG, 0 + 1, none⟩ (.int .i64 a) = w3 at *
      have sf3 : ∀ j, w3.frozen? ⟨sb, j, none⟩ = false := fun j => Blk.free sb3 (by simp [srC]) j
      have of3 : ∀ j, w3.frozen? ⟨ob, j, none⟩ = false := fun j => Blk.free ob3 (by simp) j
      have s3 : w3.cell? ⟨sb, 3, none⟩ = some (.slice BA bn bc) := Blk.cell sb3 (by simp [srC]) 3
      have o3 : w3.cell? ⟨ob, 0, none⟩ = some (.bool bo) := Blk.cell ob3 (by simp) 0
      have isb : InHeap sb w3 := Blk.inHeap sb3 (by simp [srC])
      have iob : InHeap ob w3 := Blk.inHeap ob3 (by simp)
      have irb : InHeap rb w3 := Blk.inHeap rb3 (by omega)
      have ibG : InHeap bG w3 := HS3.out.inh
      have ibS : InHeap bS w3 := World.block_lt_of_cell? _ _ bS3
      have hgb := HS3.out.eq
      have hsp2 : (spC (spSet g 0 a0 a)).size = 20 := by rw [spC_size]; exact HS3.out.len
      have hspn : span (spC (spSet g 0 a0 a)) 0 20 = spC (spSet g 0 a0 a) := span_all hsp2
      have hov2 : over (spC gr) 0 (spC (spSet g 0 a0 a)) = spC (spSet g 0 a0 a) := over_all (by rw [hgrs, hsp2])
      obtain ⟨n1, n2, n3⟩ := hd
      obtain ⟨n4, n5, n6⟩ := hnG2
      obtain ⟨n7, n8, n9⟩ := HNS.out
      have q1 : ∀ c, (setBlk w3 rb c).cell? ⟨sb, 3, none⟩ = some (.slice BA bn bc) := fun c => (cell_setBlk_other _ _ _ _ n1).trans s3
      have q2 : ∀ c, (setBlk w3 rb c).cell? ⟨ob, 0, none⟩ = some (.bool bo) := fun c => (cell_setBlk_other _ _ _ _ n3.symm).trans o3
      have q3 : ∀ c j, (setBlk w3 rb c).frozen? ⟨sb, j, none⟩ = false := fun c j => Blk.free ((blk_setBlk_other _ _ _ _ n1).trans sb3) (by simp [srC]) j
      have q4 : ∀ c j, (setBlk w3 rb c).frozen? ⟨ob, j, none⟩ = false := fun c j => Blk.free ((blk_setBlk_other _ _ _ _ n3.symm).trans ob3) (by simp) j
      have q5 : ∀ c, (setBlk w3 rb c).cell? ⟨bS, 0, none⟩ = some (.pointer (some ⟨sb, 0, none⟩)) := fun c => (cell_setBlk_other _ _ _ _ n8).trans bS3
      have HX3 := Lib.hid sb3
      have HX4 := Lib.hid ob3
      clear sb3 ob3
      go_region_law (fail)
      all_goals (
        go_wp2_with fail
        refine ⟨rfl, .tuple #[], results_none rfl _ _ _, rfl, ?_, ?_⟩
        · rw [← HSX.out]; exact (sr_kept HX3.out rb3 hgrs HX4.out ⟨n1, n2, n3⟩ HS3.out.len (HWY.out.grows HGW3.out)).1
        · exact (Chg.of_grows HGW3.out).trans (sr_kept (σ := σ) HX3.out rb3 hgrs HX4.out ⟨n1, n2, n3⟩ HS3.out.len (HWY.out.grows HGW3.out)).2)
end
end Go.Proofs.YtkomggeionofbaaGreatDoor
