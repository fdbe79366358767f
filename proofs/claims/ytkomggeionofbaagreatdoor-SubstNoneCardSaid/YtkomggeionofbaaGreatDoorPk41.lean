/-
  Matches by all ways: from a place on.
-/
import Derived.Test.YtkomggeionofbaaGreatDoorPk40
set_option linter.unusedSimpArgs false
set_option linter.unusedVariables false
namespace Go.Proofs.YtkomggeionofbaaGreatDoor
open Go.RowKit

/-- All ways, from a place on, n places at most: nothing, if the fuel is spent. -/
def allF (s : List UInt8) (f : Fr) (fuel : Int) : Nat → Nat → Sg → Option Sg
  | 0, _, σ => some σ
  | n + 1, k, σ => if σ.best.isSome then some σ else
    if overB fuel (runE (allK k) fuel (evR s f k spNone .nil) σ) then none else allF s f fuel n (k + 1) (runE (allK k) fuel (evR s f k spNone .nil) σ)
/-- What all hands back. -/
def AllPost (R : Option Sg) (e : Ending) : Prop := match R with
  | none => e = .returned (.tuple #[spV spZero, .bool false, .int .i64 100])
  | some σ => match σ.best with
    | none => e = .returned (.tuple #[spV spZero, .bool false, .int .i64 0])
    | some (g, _) => e = .returned (.tuple #[spV g, .bool true, .int .i64 0]) ∧ g.length = 20
set_option maxRecDepth 3000 in
theorem setCell_sameM {w : World} {g : Nat} {c : Array Value} {v : Value} (h : blk w g = c) (hc : 0 < c.size) (i : Nat) (hv : c[i]? = some v) : w.setCell ⟨g, i, none⟩ v = w := by
  rw [Blk.set h hc i v]
  have : c.setIfInBounds i v = c := by
    obtain ⟨hi, hx⟩ := Array.getElem?_eq_some_iff.1 hv
    apply Array.ext (by simp)
    intro j h1 h2
    rw [Array.getElem_setIfInBounds]
    split
    · subst_vars; rfl
    · rfl
  rw [this, Blk.same h hc]
set_option maxRecDepth 3000 in
theorem results_sp3 {fn : Func} {T : Array Value} {w : World} {b ob : Nat} {c : Array Value} {v x : Value} (k j l : Nat) (h : fn.results = #[.cell k 60, .cell j 4, .tmp l]) (hT : T.getD k undef = .pointer (some ⟨b, 0, none⟩)) (hj : T.getD j undef = .pointer (some ⟨ob, 0, none⟩)) (hl : T.getD l undef = x) (hb : blk w b = c) (hc : c.size = 20) (ho : w.cell? ⟨ob, 0, none⟩ = some v) : (results fn T).run Tryz.prog w = .ok (.tuple #[.agg c, v, x]) w := by
  have := loadVarSp hb hc
  have h2 : (Instr.loadAt 4 (.pointer (some ⟨ob, 0, none⟩))).run Tryz.prog w = .ok v w := by simp [go_sem, ho]
  have h3 : (loadVar 4 ⟨ob, 0, none⟩).run Tryz.prog w = .ok v w := by simpa [Instr.loadAt, Instr.sureAddr] using h2
  rw [Array.getD_eq_getD_getElem?] at hT hj hl
  simp [results, h, hT, hj, hl, asAddr, this, h3]
set_option maxRecDepth 3000 in
theorem all_world {w w1 : World} {s : List UInt8} {fuel : Int} {k0 : Nat} (h : w1 = ((((w.alloc (Obj.cells (spC spZero) 60)).alloc (Obj.cells #[.bool false] 4)).alloc (Obj.cells (srC s fuel 0 (.slice none 0 0) (.slice none 0 0)) 119)).alloc (Obj.cells #[.pointer (some ⟨w.heap.size + 2, 0, none⟩)] 116)).alloc (Obj.cells #[.int .i64 k0] 3)) :
    blk w1 w.heap.size = spC spZero ∧ blk w1 (w.heap.size + 1) = #[.bool false] ∧ blk w1 (w.heap.size + 2) = srC s fuel 0 (.slice none 0 0) (.slice none 0 0) ∧ blk w1 (w.heap.size + 3) = #[.pointer (some ⟨w.heap.size + 2, 0, none⟩)] ∧ blk w1 (w.heap.size + 4) = #[.int .i64 k0] ∧ Grows w w1 ∧ w1.heap.size = w.heap.size + 5 := by
  subst h
  refine ⟨?_, ?_, ?_, ?_, blk_alloc_at _ _ _ _ (by simp), (((((Grows.refl w).alloc _).alloc _).alloc _).alloc _).alloc _, by simp⟩
  · exact blkG (blk_alloc_at w (spC spZero) _ _ rfl) (by rw [spC_size]; decide) (((((Grows.refl _).alloc _).alloc _).alloc _).alloc _)
  · exact blkG (blk_alloc_at _ #[.bool false] _ _ (by simp)) (by simp) ((((Grows.refl _).alloc _).alloc _).alloc _)
  · exact blkG (blk_alloc_at _ (srC s fuel 0 (.slice none 0 0) (.slice none 0 0)) _ _ (by simp)) (by simp [srC]) (((Grows.refl _).alloc _).alloc _)
  · exact blkG (blk_alloc_at _ #[.pointer (some ⟨w.heap.size + 2, 0, none⟩)] _ _ (by simp)) (by simp) ((Grows.refl _).alloc _)
set_option maxRecDepth 3000 in
theorem SrAt.res {s : List UInt8} {fuel : Int} {sb rb ob : Nat} {σ : Sg} {w : World} (h : SrAt s fuel sb rb ob σ w) : ∃ gr, blk w rb = spC gr ∧ gr.length = 20 ∧ blk w ob = #[.bool σ.best.isSome] ∧ (σ.best = none → gr = spZero) ∧ (∀ y, σ.best = some y → gr = y.1) := by
  obtain ⟨A, n, c, h1, h2⟩ := h
  cases hb : σ.best with
  | none =>
    rw [hb] at h2
    obtain ⟨_, _, _, h4, h5⟩ := h2
    exact ⟨spZero, h4, rfl, h5, fun _ => rfl, fun y e => by cases e⟩
  | some y =>
    obtain ⟨g, ws⟩ := y
    rw [hb] at h2
    obtain ⟨_, _, h4, h5, h6⟩ := h2
    exact ⟨g, h4, h5, h6, fun e => by (cases e), fun y e => by (cases e; rfl)⟩
set_option maxRecDepth 3000 in
theorem none_drew {w w0 : World} (hg : Grows w w0) : Calls Tryz.prog 54 #[] w0 fun e w' => e = .returned (spV spNone) ∧ Grows w w' := (none_any w0).mono fun e w' ⟨h1, h2⟩ => ⟨h1, hg.trans h2⟩
attribute [local go_sem ↓] ldSp_eq stSp_eq zeroSp bldSp_eq
attribute [local go_sem] loadSp loadSp_if storeSp storeSp_if spC_one bldSp_run
section
variable {s : List UInt8} {fuel : Int}
set_option maxRecDepth 100000 in
set_option maxHeartbeats 8000000 in
theorem all_any (hs : s.length ≤ 60000) (hfu : fuel ≤ 1000000000) (f : Fr) (hnd : AllNd f) (hfz : f.size ≤ 90000) (m : Nat) (ok : Nat → Prop) (A : Option Addr) (cap k0 : Nat) (w : World) (hnf : NfAt ok w A cap f m) (hk : k0 ≤ s.length) :
    Calls Tryz.prog 32 #[.slice A f.len cap, .string (tx s), .int .i64 k0, .int .i64 fuel] w fun e w' => AllPost (allF s f fuel (s.length + 1 - k0) k0 ⟨0, none⟩) e ∧ Grows w w' := by
  obtain ⟨lo, hlo⟩ : ∃ z, z = w.heap.size := ⟨_, rfl⟩
  have hnf2 : NfAt (fun b => b < lo) w A cap f m := hnf.mono fun b hb _ => by omega
  obtain ⟨R, hR⟩ : ∃ R, allF s f fuel (s.length + 1 - k0) k0 ⟨0, none⟩ = R := ⟨_, rfl⟩
  rw [hR]
  have HNF := Lib.hid hnf2
  have HR := Lib.hid hR
  have HLO := Lib.hid hlo
  have HND := Lib.hid hnd
  have HFZ := Lib.hid hfz
  have HFU := Lib.hid hfu
  clear hnf hnf2 hR hlo hnd hfz hfu
  go_enter Tryz.func32, Tryz.ntmps32
  go_wp2_with fail
  generalize hw1 : (((((w.alloc (Obj.cells (spC spZero) 60)).alloc (Obj.cells #[.bool false] 4)).alloc (Obj.cells #[.string (tx s), .int .i64 fuel, .int .i64 0, .slice none 0 0, .slice none 0 0] 119)).alloc (Obj.cells #[.pointer (some ⟨w.heap.size + 1 + 1, 0, none⟩)] 116)).alloc (Obj.cells #[.int .i64 k0] 3)) = w1
  obtain ⟨h1, h2, h3, h4, h5, hg1, hz1⟩ := all_world hw1.symm
  clear hw1
  obtain ⟨sb, hsb⟩ : ∃ z, z = w.heap.size + 1 + 1 := ⟨_, rfl⟩
  obtain ⟨rb, hrb⟩ : ∃ z, z = w.heap.size := ⟨_, rfl⟩
  obtain ⟨ob, hob⟩ : ∃ z, z = w.heap.size + 1 := ⟨_, rfl⟩
  obtain ⟨bS, hbS⟩ : ∃ z, z = w.heap.size + 1 + 1 + 1 := ⟨_, rfl⟩
  obtain ⟨b0, hb0⟩ : ∃ z, z = w.heap.size + 1 + 1 + 1 + 1 := ⟨_, rfl⟩
  have hll := HLO.out
  rw [show w.heap.size + 2 = sb from hsb.symm] at h3 h4
  rw [show w.heap.size + 3 = bS from hbS.symm] at h4
  rw [show w.heap.size + 4 = b0 from hb0.symm] at h5
  rw [← hb0, ← hbS, ← hob, ← hrb]
  rw [← hob] at h2
  rw [← hrb] at h1
  have hNU : (sb ≠ rb ∧ sb ≠ ob ∧ rb ≠ ob) ∧ (lo ≤ sb ∧ lo ≤ rb ∧ lo ≤ ob) ∧ ¬ MutB sb rb ob bS ∧ ¬ MutB sb rb ob b0 ∧ w.heap.size ≤ b0 ∧ bS ≠ b0 ∧ lo = w.heap.size := by unfold MutB; omega
  have hS1 : SrAt s fuel sb rb ob ⟨0, none⟩ w1 := ⟨none, 0, 0, h3, rfl, rfl, rfl, h1, h2⟩
  have HNU := Lib.hid hNU
  have HS1 := Lib.hid hS1
  have HB1 := Lib.hid (And.intro h4 h5)
  have HG1 := Lib.hid hg1
  clear h1 h2 h3 h4 h5 hg1 hz1 hsb hrb hob hbS hll hNU hS1
  go_loopg [12] (s.length + 1 - k0) (fun q v12 wr => ∃ (k : Nat) (σ : Sg) (bA : Nat), v12 = .pointer (some ⟨bA, 0, none⟩) ∧ q + k = s.length + 1 ∧ blk wr bS = #[.pointer (some ⟨sb, 0, none⟩)] ∧ blk wr bA = #[.int .i64 k] ∧ ¬ MutB sb rb ob bA ∧ w.heap.size ≤ bA ∧ SrAt s fuel sb rb ob σ wr ∧ Grows w wr ∧ allF s f fuel q k σ = R)
  case atStart =>
    obtain ⟨n1, n2, n3, n4, n5, n6, n7⟩ := HNU.out
    exact ⟨k0, ⟨0, none⟩, b0, rfl, by omega, HB1.out.1, HB1.out.2, n4, n5, HS1.out, HG1.out, HR.out⟩
  case round =>
    obtain ⟨k, σ, bA, rfl, hq, hbS, hbA, hnA, hlA, hS, hG, hP⟩ := hrel
    clear HS1 HB1 HG1 HR hb0
    obtain ⟨gr, hr1, hr2, ho1, hr3, hr4⟩ := hS.res
    have c1 : wr.cell? ⟨bA, 0, none⟩ = some (.int .i64 k) := Blk.cell hbA (by simp) 0
    obtain ⟨bo, hbo⟩ : ∃ b, σ.best.isSome = b := ⟨_, rfl⟩
    rw [hbo] at ho1
    have c2 : wr.cell? ⟨ob, 0, none⟩ = some (.bool bo) := Blk.cell ho1 (by simp) 0
    have c3 : wr.cell? ⟨bS, 0, none⟩ = some (.pointer (some ⟨sb, 0, none⟩)) := Blk.cell hbS (by simp) 0
    have HQ := Lib.hid hq
    have HBS := Lib.hid hbS
    have HBA := Lib.hid hbA
    have HS := Lib.hid hS
    have HG := Lib.hid hG
    have HP := Lib.hid hP
    have HBO := Lib.hid hbo
    have HNA := Lib.hid (And.intro hnA hlA)
    have HRS : Hid (_ ∧ _ ∧ _ ∧ _ ∧ _) := Lib.hid ⟨hr1, hr2, ho1, hr3, hr4⟩
    clear hq hbS hbA hS hG hP hnA hlA hr1 hr2 ho1 hr3 hr4 hbo
    by_cases hstep : k ≤ s.length ∧ bo = false
    · obtain ⟨hk1, rfl⟩ := hstep
      have hki : (k : Int) ≤ (s.length : Int) := by omega
      obtain ⟨q1, hq1⟩ : ∃ q1, gk = q1 + 1 := ⟨gk - 1, by have := HQ.out; omega⟩
      have HQ1 := Lib.hid hq1
      obtain ⟨σ2, hσ2⟩ : ∃ z, runE (allK k) fuel (evR s f k spNone .nil) σ = z := ⟨_, rfl⟩
      have hP2 : (if overB fuel σ2 then none else allF s f fuel q1 (k + 1) σ2) = R := by
        have := HP.out
        rw [hq1] at this
        unfold allF at this
        rw [HBO.out, if_neg Bool.false_ne_true, hσ2] at this
        exact this
      have HP2 := Lib.hid hP2
      have HS2E := Lib.hid hσ2
      have HSA : Hid (∀ w', Chg (MutB sb rb ob) wr w' → (w'.cell? ⟨bS, 0, none⟩ = some (.pointer (some ⟨sb, 0, none⟩)) ∧ w'.cell? ⟨bA, 0, none⟩ = some (.int .i64 k))) := Lib.hid fun w' hg => ⟨cellC c3 hg HNU.out.2.2.1, cellC c1 hg HNA.out.1⟩
      have hk6 : k ≤ 60000 := by omega
      clear HP hP2 hσ2 HRS hq1 HBO
      have iS : InHeap bS wr := World.block_lt_of_cell? _ _ c3
      have iA : InHeap bA wr := World.block_lt_of_cell? _ _ c1
      go_upto_region 5 with fail
      clear c1 c2 c3
      go_region_held3 (fun w' => w'.cell? ⟨bS, 0, none⟩ = some (.pointer (some ⟨sb, 0, none⟩)) ∧ w'.cell? ⟨bA, 0, none⟩ = some (.int .i64 k))
        (exact HSA.out _ (by repeat' first | exact Chg.refl _ _ | exact (Chg.of_grows G2.out).trans C3.out | exact Chg.of_grows G2.out | refine chgDrewN ?_ _ | refine chgDrew ?_))
        (first
          | (go_at_call 54; (refine Calls.mono (none_drew (w := wr) ?_) ?_); (repeat' first | exact Grows.refl _ | refine Grows.drewN ?_ _ | refine Grows.drew ?_); rintro e9 w2 ⟨rfl, hG2⟩; have G2 := Lib.hid hG2; clear hG2)
          | (go_at_call 53; (refine Calls.mono (srow_drew (srow_ok hs HFU.out HNU.out.2.1 f) m A cap k spNone .nil none 0 _ (allK k) σ HND.out (HNF.out.chg (Chg.of_grows (p := fun _ => False) (HG.out.trans G2.out)) (fun _ _ _ h => h)) hk1 (spIn_none _) (WyAt.zero _ _) (by have := HFZ.out; simp only [Wy.len]; omega) ((all1_any k w2 (blkG HBS.out (by simp) G2.out) (blkG HBA.out (by simp) G2.out) ⟨HNU.out.2.2.1, HNA.out.1⟩ HNU.out.1 (HS.out.grows G2.out).lts hk6 hs).mono (Chg.refl _ _) (Nat.zero_le _)) (HS.out.grows G2.out) ?_) ?_); (repeat' first | exact Grows.refl _ | exact G2.out | refine Grows.drewN ?_ _ | refine Grows.drew ?_); rintro e9 w3 ⟨rfl, hS3, hC3⟩; have S3 := Lib.hid hS3; have C3 := Lib.hid hC3; clear hS3 hC3))
      all_goals (
        have hc3 := (Chg.of_grows (p := MutB sb rb ob) G2.out).trans C3.out
        have hS3 := S3.out
        rw [HS2E.out] at hS3
        obtain ⟨bb3, hbb3⟩ := hS3.sbblk
        have hbS3 := (chg_blk hc3 (Blk.inHeap HBS.out (by simp)) HNU.out.2.2.1).trans HBS.out
        have hbA3 := (chg_blk hc3 (Blk.inHeap HBA.out (by simp)) HNA.out.1).trans HBA.out
        have c3 : w3.cell? ⟨bS, 0, none⟩ = some (.pointer (some ⟨sb, 0, none⟩)) := Blk.cell hbS3 (by simp) 0
        have hGw3 : Grows w w3 := Chg.grows (n := 0) HG.out hc3 fun b hb => by have h1 := HNU.out.2.1; have h2 := HNU.out.2.2.2.2.2.2; unfold MutB at hb; omega
        have hover := over_any w3 sb s fuel σ2.spent bb3 _ hbb3
        obtain ⟨O, hO⟩ : ∃ O, overB fuel σ2 = O := ⟨_, rfl⟩
        have hO2 : decide (fuel < (σ2.spent : Int)) = O := hO
        rw [hO2] at hover
        have HS3 := Lib.hid hS3
        have HBS3 := Lib.hid hbS3
        have HBA3 := Lib.hid hbA3
        have HG3 := Lib.hid hGw3
        have HO := Lib.hid hO
        clear hc3 hS3 hbb3 hbS3 hbA3 hGw3 hO hO2 iS iA S3 C3 G2 HS HBS HBA HG
        go_wp2_with fail
        (with_reducible refine hover.mono ?_)
        rintro e9 w4 ⟨rfl, hg4⟩
        have HS4 := Lib.hid (HS3.out.grows hg4)
        have HBS4 := Lib.hid (blkG HBS3.out (by simp) hg4)
        have HBA4 := Lib.hid (blkG HBA3.out (by simp) hg4)
        have HG4 := Lib.hid (HG3.out.trans hg4)
        clear hover HS3 HBS3 HBA3 HG3 hg4 c3
        cases O with
        | true =>
          have hRs := HP2.out
          rw [HO.out, if_pos rfl] at hRs
          subst hRs
          obtain ⟨gr2, hr1, hr2, ho1, _, _⟩ := HS4.out.res
          have hgs : (spC gr2).size = 20 := by rw [spC_size]; exact hr2
          have hz20 : (spC spZero).size = 20 := by rw [spC_size]; rfl
          have hov : over (spC gr2) 0 (spC spZero) = spC spZero := over_all (by omega)
          have iob : InHeap ob w4 := Blk.inHeap ho1 (by simp)
          have irb : InHeap rb w4 := Blk.inHeap hr1 (by omega)
          have hnro := HNU.out.1.2.2
          have hro : blk (setBlk w4 rb (spC spZero)) ob = _ := (blk_setBlk_other _ _ _ _ hnro.symm).trans ho1
          have hco : (setBlk w4 rb (spC spZero)).cell? ⟨ob, 0, none⟩ = some _ := Blk.cell hro (by simp) 0
          have hfo : (setBlk w4 rb (spC spZero)).frozen? ⟨ob, 0, none⟩ = false := Blk.free hro (by simp) 0
          have hrr : blk (setBlk w4 rb (spC spZero)) rb = spC spZero := Blk.get _ hr1 (by omega)
          have hfin : ∀ x, blk ((setBlk w4 rb (spC spZero)).setCell ⟨ob, 0, none⟩ x) rb = spC spZero := fun x => (chg_blk (chg_cell _ ob 0 x) (Blk.inHeap hrr (by omega)) hnro).trans hrr
          have hfin2 : blk ((setBlk w4 rb (spC spZero)).setCell ⟨ob, 0, none⟩ (.bool false)) ob = #[.bool false] := by
            have := pa_put hro (by simp) 0 (.bool false)
            exact this
          have hcF : Chg (MutB sb rb ob) w4 ((setBlk w4 rb (spC spZero)).setCell ⟨ob, 0, none⟩ (.bool false)) := (chg_setBlkM (K := MutB sb rb ob) (.inr (.inl rfl))).trans ((chg_cell _ ob 0 _).mono fun b _ hb => .inr (.inr hb))
          have hGF : Grows w ((setBlk w4 rb (spC spZero)).setCell ⟨ob, 0, none⟩ (.bool false)) := Chg.grows (n := 0) HG4.out hcF fun b hb => by have h1 := HNU.out.2.1; have h2 := HNU.out.2.2.2.2.2.2; unfold MutB at hb; omega
          have HF := Lib.hid (And.intro (hfin (.bool false)) (And.intro (Blk.cell hfin2 (by simp) 0) hGF))
          clear hfin hfin2 hcF hGF hrr ho1
          go_wp2_with fail
          exact bodyPost_ret (results_sp3 8 9 10 rfl rfl rfl rfl (c := spC spZero) HF.out.1 hz20 HF.out.2.1) rfl ⟨rfl, HF.out.2.2⟩
        | false =>
          have hRs := HP2.out
          rw [HO.out, if_neg Bool.false_ne_true] at hRs
          have HP3 := Lib.hid hRs
          have c1 : w4.cell? ⟨bA, 0, none⟩ = some (.int .i64 k) := Blk.cell HBA4.out (by simp) 0
          have hk7 : IntKind.i64.wrap ((k : Int) + 1) = (k + 1 : Nat) := by rw [wrap_small (by omega) (by omega)]; rfl
          clear hRs HP2 HO
          go_wp2_with fail
          have hg5 : Grows w4 (w4.alloc (Obj.cells #[.int .i64 ((k : Int) + 1)] 3)) := (Grows.refl _).alloc _
          have hll := HG4.out.below.size
          have hlt := HS4.out.lts
          go_roundg q1
          case measure => have := HQ1.out; omega
          case rel => exact ⟨k + 1, σ2, w4.heap.size, rfl, by have := HQ1.out; have := HQ.out; omega, blkG HBS4.out (by simp) hg5, by rw [blk_alloc_at _ _ _ _ rfl]; simp, fun e => by (unfold MutB at e; omega), hll, HS4.out.grows hg5, HG4.out.trans hg5, HP3.out⟩)
    · have hRs : R = some σ := by
        rw [← HP.out]
        cases gk with
        | zero => rfl
        | succ q =>
          have := HQ.out
          unfold allF
          rw [if_pos]
          rw [HBO.out]
          cases bo with
          | true => rfl
          | false => exact absurd ⟨by omega, rfl⟩ hstep
      subst hRs
      obtain ⟨hr1, hr2, ho1, hr3, hr4⟩ := HRS.out
      have hgs : (spC gr).size = 20 := by rw [spC_size]; exact hr2
      have hspn : span (spC gr) 0 20 = spC gr := span_all hgs
      have hov : over (spC gr) 0 (spC gr) = spC gr := over_all (by omega)
      have hsame : setBlk wr rb (spC gr) = wr := Blk.same hr1 (by omega)
      have hsc : wr.setCell ⟨ob, 0, none⟩ (.bool bo) = wr := setCell_sameM ho1 (by simp) 0 rfl
      have hfo : wr.frozen? ⟨ob, 0, none⟩ = false := Blk.free ho1 (by simp) 0
      have iob : InHeap ob wr := Blk.inHeap ho1 (by simp)
      have irb : InHeap rb wr := Blk.inHeap hr1 (by omega)
      have hpost : AllPost (some σ) (.returned (.tuple #[spV gr, .bool bo, .int .i64 0])) := by
        unfold AllPost
        dsimp only
        cases hb : σ.best with
        | none =>
          have := HBO.out
          rw [hb] at this
          obtain rfl : false = bo := this
          rw [hr3 hb]
        | some y =>
          have := HBO.out
          rw [hb] at this
          obtain rfl : true = bo := this
          obtain rfl := hr4 _ hb
          exact ⟨rfl, hr2⟩
      have HPOST := Lib.hid hpost
      clear hr3 hr4 ho1 hpost
      rcases (Nat.lt_or_ge s.length k) with hk1 | hk1
      · have hki : ¬ (k : Int) ≤ (s.length : Int) := by omega
        have hkd : decide (k ≤ s.length) = false := by rw [decide_eq_false_iff_not]; omega
        go_upto_region 10 with fail
        go_region_law (fail)
        all_goals (go_wp2_with fail; exact bodyPost_ret (results_sp3 8 9 10 rfl rfl rfl rfl (c := spC gr) hr1 hgs c2) rfl ⟨HPOST.out, by repeat' first | exact HG.out | refine Grows.drewN ?_ _ | refine Grows.drew ?_⟩)
      · have hki : (k : Int) ≤ (s.length : Int) := by omega
        obtain rfl : bo = true := by cases bo with | true => rfl | false => exact absurd ⟨hk1, rfl⟩ hstep
        go_upto_region 10 with fail
        go_region_law (fail)
        all_goals (go_wp2_with fail; exact bodyPost_ret (results_sp3 8 9 10 rfl rfl rfl rfl (c := spC gr) hr1 hgs c2) rfl ⟨HPOST.out, by repeat' first | exact HG.out | refine Grows.drewN ?_ _ | refine Grows.drew ?_⟩)
end
end Go.Proofs.YtkomggeionofbaaGreatDoor
