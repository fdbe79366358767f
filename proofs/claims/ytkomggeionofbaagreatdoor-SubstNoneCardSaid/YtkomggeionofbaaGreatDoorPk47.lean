/-
  Several texts of the proof: SubP, SubW.
-/
import Derived.Test.YtkomggeionofbaaGreatDoorPk43
import Derived.Test.YtkomggeionofbaaGreatDoorPk46
import Derived.Test.YtkomggeionofbaaGreatDoorPk11
import Derived.Lib.Split
import Derived.Lib.Join
import Derived.Test.YtkomggeionofbaaGreatDoorPk23
import Derived.Test.YtkomggeionofbaaGreatDoorPk42
set_option linter.unusedSimpArgs false
set_option linter.unusedVariables false
/-
  Substitution in plain words: a line's matches, and the line with some replaced.
-/
namespace Go.Proofs.YtkomggeionofbaaGreatDoor
open Go.RowKit

/-- The matches of a line from a place on, behind one that ended at e. -/
def subM (s : List UInt8) (f : Fr) : Nat → Nat → Int → List Spn
  | 0, _, _ => []
  | n + 1, k, e => if s.length < k then [] else match plainV s f (s.length + 1 - k) k with
    | none => []
    | some g => (if spA g 0 < spB g 0 ∨ spA g 0 ≠ e then [g] else []) ++ subM s f n (if spA g 0 = spB g 0 then (spB g 0).toNat + 1 else (spB g 0).toNat) (spB g 0)
def subMs (s : List UInt8) (f : Fr) : List Spn := subM s f (s.length + 2) 0 (-1)
/-- A match lies within the text, from a place on. -/
structure MIn (s : List UInt8) (k : Nat) (g : Spn) : Prop where
  len : g.length = 20
  lo : (k : Int) ≤ spA g 0
  le : spA g 0 ≤ spB g 0
  hi : spB g 0 ≤ s.length
set_option maxRecDepth 3000 in
theorem plain_min {s : List UInt8} {f : Fr} {k : Nat} {g : Spn} (hk : k ≤ s.length) (h : plainV s f (s.length + 1 - k) k = some g) : MIn s k g := by
  obtain ⟨i, j, q1, q2, q3, _, q5, _⟩ := plain_is (by omega) h
  obtain ⟨r1, r2, _⟩ := spSet_0 (g := giveV s f i j spNone) (by rw [give_len]; rfl) (i : Int) (j : Int)
  have a1 : spA g 0 = i := by rw [q5]; exact r1
  have a2 : spB g 0 = j := by rw [q5]; exact r2
  exact ⟨plain_len h, by omega, by omega, by omega⟩
/-- Matches rise. -/
def Rise (s : List UInt8) : Nat → List Spn → Prop
  | _, [] => True
  | k, g :: r => MIn s k g ∧ Rise s (spB g 0).toNat r
set_option maxRecDepth 3000 in
theorem Rise.low {s : List UInt8} {k m : Nat} (h : m ≤ k) : ∀ {l : List Spn}, Rise s k l → Rise s m l
  | [], _ => trivial
  | g :: r, ⟨⟨h1, h2, h3, h4⟩, h5⟩ => ⟨⟨h1, by omega, h3, h4⟩, h5⟩
set_option maxRecDepth 3000 in
theorem subM_rise {s : List UInt8} {f : Fr} : ∀ (n k : Nat) (e : Int), Rise s k (subM s f n k e) := by
  intro n
  induction n with
  | zero => intro k e; trivial
  | succ n ih =>
    intro k e
    unfold subM
    split
    · trivial
    · rename_i hk
      split
      · trivial
      · rename_i g hg
        have hm := plain_min (by omega) hg
        have h1 := hm.lo
        have h2 := hm.le
        have h3 := hm.hi
        have hr := ih (if spA g 0 = spB g 0 then (spB g 0).toNat + 1 else (spB g 0).toNat) (spB g 0)
        have hl : (spB g 0).toNat ≤ (if spA g 0 = spB g 0 then (spB g 0).toNat + 1 else (spB g 0).toNat) := by split <;> omega
        split
        · exact ⟨hm, hr.low hl⟩
        · exact hr.low (by omega)
set_option maxRecDepth 3000 in
theorem subM_len {s : List UInt8} {f : Fr} : ∀ (n k : Nat) (e : Int), (subM s f n k e).length ≤ n := by
  intro n
  induction n with
  | zero => intro k e; exact Nat.le_refl _
  | succ n ih =>
    intro k e
    unfold subM
    split
    · simp
    · split
      · simp
      · rename_i g hg
        have := ih (if spA g 0 = spB g 0 then (spB g 0).toNat + 1 else (spB g 0).toNat) (spB g 0)
        split <;> simp <;> omega
/-- A line as it is being made: the text, up to where, how many were replaced. -/
structure LnS where
  out : List UInt8
  at_ : Nat
  n : Nat
/-- Is the match of a number left as it is? -/
def skipB (nth : Int) (all : Bool) (i : Nat) : Bool := decide ((i : Int) + 1 < nth) || (decide (nth < (i : Int) + 1) && !all)
def lnStep (s : List UInt8) (l : List Tok) (nth : Int) (all : Bool) (i : Nat) (g : Spn) (x : LnS) : LnS :=
  if skipB nth all i then x else ⟨x.out ++ ((s.drop x.at_).take ((spA g 0).toNat - x.at_) ++ outV s g l), (spB g 0).toNat, x.n + 1⟩
def lnF (s : List UInt8) (l : List Tok) (nth : Int) (all : Bool) : Nat → List Spn → LnS → LnS
  | _, [], x => x
  | i, g :: r, x => lnF s l nth all (i + 1) r (lnStep s l nth all i g x)
/-- The text of the line behind all. -/
def lineTx (s : List UInt8) (f : Fr) (l : List Tok) (nth : Int) (all : Bool) : List UInt8 := (lnF s l nth all 0 (subMs s f) ⟨[], 0, 0⟩).out ++ s.drop (lnF s l nth all 0 (subMs s f) ⟨[], 0, 0⟩).at_
/-- A text's lines, as strings.Split tells them. -/
def splitL (t : List UInt8) : List (List UInt8) := (Lib.splitB (tx [10]) 0 (Lib.countB (tx t) (tx [10])) (tx t)).map fun x => x.data.toList
/-- What Line answers for a pattern and a replacement that are there, from the first match on at least. -/
def lineV (s : List UInt8) (f : Fr) (l : List Tok) (nth : Int) (all : Bool) : List (List UInt8) × Nat × Int :=
  if lcheckV (splitL (lineTx s f l nth all)) = 0 then (splitL (lineTx s f l nth all), (lnF s l nth all 0 (subMs s f) ⟨[], 0, 0⟩).n, 0) else ([], 0, 3)
end Go.Proofs.YtkomggeionofbaaGreatDoor

/-
  Substitution: a line's matches, walked.
-/
namespace Go.Proofs.YtkomggeionofbaaGreatDoor
open Go.RowKit

set_option maxRecDepth 3000 in
theorem elemSp : ElemOf Tryz.prog 30 60 20 160 := elemOf_of (z := .agg (spC spZero)) Tryz.underlying30 (by kernel_rfl) (by kernel_rfl) (by kernel_rfl) (by kernel_rfl) (by decide) (by decide)
/-- Stretches, one behind the other. -/
def flat (l : List Spn) : List Value := l.flatMap fun g => (spC g).toList
set_option maxRecDepth 3000 in
theorem flat_snoc (l : List Spn) (g : Spn) : flat (l ++ [g]) = flat l ++ (spC g).toList := by simp [flat]
def bldSlSp (x : Array (Nat × Value)) : Sem Value := Instr.buildSlice 30 1 x
set_option maxRecDepth 3000 in
theorem bldSlSp_eq (x : Array (Nat × Value)) : Instr.buildSlice 30 1 x = bldSlSp x := rfl
set_option maxRecDepth 3000 in
theorem bldSlSp_lit (w : World) (g0 g1 g2 g3 g4 g5 g6 g7 g8 g9 g10 g11 g12 g13 g14 g15 g16 g17 g18 g19 : Int) : (bldSlSp #[(0, spV [g0, g1, g2, g3, g4, g5, g6, g7, g8, g9, g10, g11, g12, g13, g14, g15, g16, g17, g18, g19])]).run Tryz.prog w = .ok (.slice (some ⟨w.heap.size, 0, none⟩) 1 1) (w.alloc (.cells (spC [g0, g1, g2, g3, g4, g5, g6, g7, g8, g9, g10, g11, g12, g13, g14, g15, g16, g17, g18, g19]) 60)) := by kernel_rfl
set_option maxRecDepth 3000 in
theorem bldSlSp_run (w : World) (g : Spn) (hg : g.length = 20) : (bldSlSp #[(0, .agg (spC g))]).run Tryz.prog w = .ok (.slice (some ⟨w.heap.size, 0, none⟩) 1 1) (w.alloc (.cells (spC g) 60)) := by
  match g, hg with
  | [g0, g1, g2, g3, g4, g5, g6, g7, g8, g9, g10, g11, g12, g13, g14, g15, g16, g17, g18, g19], _ => exact bldSlSp_lit w g0 g1 g2 g3 g4 g5 g6 g7 g8 g9 g10 g11 g12 g13 g14 g15 g16 g17 g18 g19
/-- What Matches answers. -/
def MatchesPost (w : World) (R : List Spn) (e : Ending) (w' : World) : Prop := ∃ v, e = .returned (.tuple #[v, .int .i64 0]) ∧ w'.ownsRow w.heap.size 60 20 v R.length (flat R) ∧ Grows w w'
set_option maxRecDepth 3000 in
theorem matches_nil (s : List UInt8) (w : World) : Calls Tryz.prog 7 #[.pointer none, .string (tx s)] w fun e w' => e = .returned (.tuple #[.slice none 0 0, .int .i64 1]) ∧ Grows w w' := by
  go_enter Tryz.func7, Tryz.ntmps7
  go_wp2_with fail
  exact bodyPost_ret (v := .tuple #[.slice none 0 0, .int .i64 1]) (by simp [results, Tryz.results7, go_sem]; try rfl) rfl ⟨rfl, Grows.refl _⟩
attribute [local go_sem ↓] ldSp_eq stSp_eq zeroSp bldSp_eq bldSlSp_eq
attribute [local go_sem] loadSp loadSp_if storeSp storeSp_if spC_one bldSp_run bldSlSp_run
section
set_option maxRecDepth 100000 in
set_option maxHeartbeats 8000000 in
theorem matches_any (s : List UInt8) (hs : s.length ≤ 60000) (f : Fr) (t : PS) (hnd : AllNd f) (hfz : f.size ≤ 90000) (hrf : t.refs = false) (ok : Nat → Prop) (g : Nat) (w : World) (hre : ReAt ok w g f t) (htz : TzAt w) :
    Calls Tryz.prog 7 #[.pointer (some ⟨g, 1, none⟩), .string (tx s)] w (MatchesPost w (subMs s f)) := by
  obtain ⟨R, hR⟩ : ∃ R, subMs s f = R := ⟨_, rfl⟩
  rw [hR]
  have HR := Lib.hid hR
  have HND := Lib.hid hnd
  have HFZ := Lib.hid hfz
  have HRF := Lib.hid hrf
  have HRE := Lib.hid hre
  have HTZ := Lib.hid htz
  have HZ := Lib.hid (show 0 ≤ w.heap.size from Nat.zero_le _)
  obtain ⟨w0, hw0⟩ : ∃ z, z = w.heap.size := ⟨_, rfl⟩
  have HW0 := Lib.hid hw0
  clear hR hnd hfz hrf hre htz hw0
  go_enter Tryz.func7, Tryz.ntmps7
  go_wp2_with fail
  go_loopg [6, 7, 8, 9, 10, 11, 12, 13] (s.length + 2) (fun q v6 v7 v8 _ _ _ _ _ wr => ∃ (done : List Spn) (k : Nat) (e : Int) (v : Value), v6 = v ∧ v7 = .int .i64 e ∧ v8 = .int .i64 k ∧ -1 ≤ e ∧ e ≤ s.length ∧ k ≤ s.length + 1 ∧ done ++ subM s f q k e = R ∧ s.length + 2 ≤ q + k ∧ done.length + q ≤ s.length + 2 ∧ wr.ownsRow w0 60 20 v done.length (flat done) ∧ Grows w wr)
  case atStart => exact ⟨[], 0, -1, _, rfl, rfl, rfl, by omega, by omega, by omega, HR.out, by omega, by simp, World.ownsRow_nil _ _ _ _, Grows.refl _⟩
  case round =>
    obtain ⟨done, k, e, v6, rfl, rfl, rfl, he1, he2, hk, hdone, hq, hlen, hown, hg⟩ := hrel
    have HQ := Lib.hid (And.intro hq hlen)
    have HG := Lib.hid hg
    have HOWN := Lib.hid hown
    have HDONE := Lib.hid hdone
    clear hq hlen hg hdone
    by_cases hks : k ≤ s.length
    · have k1 : (k : Int) ≤ (s.length : Int) := by omega
      obtain ⟨q, hgq⟩ : ∃ q, gk = q + 1 := ⟨gk - 1, by have := HQ.out.1; omega⟩
      have hd2 := HDONE.out
      rw [hgq] at hd2
      unfold subM at hd2
      rw [if_neg (by omega)] at hd2
      have HD2 := Lib.hid hd2
      have HGQ := Lib.hid hgq
      have hm := match_any (s := s) (k := (k : Int)) (fuel := 200000) hs f t HND.out HFZ.out (fun h => by rw [HRF.out] at h; cases h) _ g wr (HRE.out.grows HG.out) (HTZ.out.grows HG.out)
      have hmr : matchR s f t.refs (k : Int) 200000 = match plainV s f (s.length + 1 - k) k with
          | none => (spZero, false, 0)
          | some g => (g, true, 0) := by
        rw [HRF.out]
        unfold matchR
        rw [if_neg (by omega)]
        simp only [Bool.false_eq_true, if_false, Int.toNat_natCast]
        cases plainV s f (s.length + 1 - k) k <;> rfl
      rw [hmr] at hm
      obtain ⟨P, hP⟩ : ∃ P, plainV s f (s.length + 1 - k) k = P := ⟨_, rfl⟩
      rw [hP] at hm
      have HP := Lib.hid hP
      obtain ⟨wk, hwk⟩ : ∃ z, z = wr := ⟨_, rfl⟩
      subst hwk
      clear hd2 hgq hmr hP HDONE
      cases P with
      | none =>
        unfold mtV at hm
        dsimp only at hm
        have hRd : R = done := by have := HD2.out; rw [HP.out] at this; simpa using this.symm
        have HRD0 := Lib.hid hRd
        clear hRd
        go_wp2_with fail
        (with_reducible refine hm.mono ?_)
        rintro e9 w1 ⟨⟨rfl, -⟩, hg1⟩
        have hz : (spC spZero).size = 20 := by rw [spC_size]; rfl
        have hov := over_zero
        go_wp2_with fail
        rw [HRD0.out]
        exact bodyPost_ret (v := .tuple #[u6, .int .i64 0]) (by simp [results, Tryz.results7, go_sem]; try rfl) rfl ⟨u6, rfl, by rw [← HW0.out]; exact own_moreX HOWN.out (by repeat' first | exact hg1 | refine Grows.alloc ?_ _ | refine Grows.drewN ?_ _ | refine Grows.drew ?_), (by repeat' first | exact HG.out.trans hg1 | refine Grows.alloc ?_ _ | refine Grows.drewN ?_ _ | refine Grows.drew ?_)⟩
      | some gm =>
        have hmin := plain_min hks HP.out
        unfold mtV at hm
        dsimp only at hm
        have hgs : (spC gm).size = 20 := by rw [spC_size]; exact hmin.len
        have hz : (spC spZero).size = 20 := by rw [spC_size]; rfl
        have hov : over (spC spZero) 0 (spC gm) = spC gm := over_all (by omega)
        have hml := hmin.len
        have hm1 := hmin.lo
        have hm2 := hmin.le
        have hm3 := hmin.hi
        have hd3 := HD2.out
        rw [HP.out] at hd3
        dsimp only at hd3
        have eA : spA gm 0 = gm.getD 0 0 := rfl
        have eB : spB gm 0 = gm.getD 1 0 := rfl
        rw [eA, eB] at hd3
        rw [eA] at hm1 hm2
        rw [eB] at hm2 hm3
        clear eA eB hmin HD2 HP
        go_wp2_with fail
        (with_reducible refine hm.mono ?_)
        rintro e9 w1 ⟨⟨rfl, -⟩, hg1⟩
        have hg2 : Grows w1 (w1.alloc (.cells (spC gm) 60)) := (Grows.refl _).alloc _
        have HG2 := Lib.hid (hg1.trans hg2)
        have hb2 : blk (w1.alloc (.cells (spC gm) 60)) w1.heap.size = spC gm := blk_alloc_at _ _ _ _ rfl
        clear hm hg1 hg2
        go_upto_region 8 with fail
        obtain ⟨bM, hbM⟩ : ∃ z, z = w1.heap.size := ⟨_, rfl⟩
        rw [← hbM] at hb2 ⊢
        clear hbM hov hz
        generalize w1.alloc (.cells (spC gm) 60) = w2 at *
        have c0 := (Blk.cell hb2 (by omega) 0).trans (spC_get (by omega))
        have c1 := (Blk.cell hb2 (by omega) 1).trans (spC_get (by omega))
        have iM := Blk.inHeap hb2 (by omega)
        obtain ⟨a, ha⟩ : ∃ a : Nat, gm.getD 0 0 = a := ⟨(gm.getD 0 0).toNat, by omega⟩
        obtain ⟨b, hb⟩ : ∃ b : Nat, gm.getD 1 0 = b := ⟨(gm.getD 1 0).toNat, by omega⟩
        rw [ha] at c0 hm1 hm2 hd3
        rw [hb] at c1 hm2 hm3 hd3
        rw [Int.toNat_natCast] at hd3
        have HB2 := Lib.hid hb2
        have HD3 := Lib.hid hd3
        have HGS := Lib.hid hgs
        obtain ⟨T, hT⟩ : ∃ T, (decide (a < b) || !((a : Int) == e)) = T := ⟨_, rfl⟩
        have HT := Lib.hid hT
        clear hb2 hd3 hgs ha hb
        go_upto_region 11 with fail
        go_quiet (fail)
        go_upto_region 12 with fail
        clear c0 c1 iM
        go_cut [46] (fun v46 wx => v46 = .bool T ∧ Grows w2 wx)
        case first =>
          by_cases hab : a < b
          · have h1 : (a : Int) < (b : Int) := by omega
            have h2 : decide (a < b) = true := decide_eq_true hab
            obtain rfl : true = T := by rw [← hT, h2]; rfl
            clear hT
            go_wp2_with fail
            go_meet
            exact ⟨rfl, (by repeat' first | exact Grows.refl _ | refine Grows.drewN ?_ _ | refine Grows.drew ?_)⟩
          · have h1 : ¬ (a : Int) < (b : Int) := by omega
            have h2 : decide (a < b) = false := decide_eq_false hab
            rw [h2, Bool.false_or] at hT
            subst hT
            go_wp2_with fail
            go_meet
            exact ⟨by rfl, (by repeat' first | exact Grows.refl _ | refine Grows.drewN ?_ _ | refine Grows.drew ?_)⟩
        case rest =>
          obtain ⟨rfl, hgc⟩ := hcut
          have HGC := Lib.hid (HG2.out.trans hgc)
          have hbc := blkG HB2.out (by have := HGS.out; omega) hgc
          have HBC := Lib.hid hbc
          clear hT hgc hbc
          obtain ⟨wd, hwd⟩ : ∃ z, z = wc := ⟨_, rfl⟩
          subst hwd
          go_upto_if 46 with fail
          go_cut [6] (fun v wx => wx.ownsRow w0 60 20 v (done ++ (if T then [gm] else [])).length (flat (done ++ (if T then [gm] else []))) ∧ Grows w wx)
          case first =>
            have hown2 := own_moreX HOWN.out HGC.out
            cases T with
            | false =>
              go_wp2_with fail
              go_meet
              exact ⟨by simpa using hown2, HG.out.trans HGC.out⟩
            | true =>
              have hL := loadSp_all wd bM (spC gm) HBC.out HGS.out
              have hwz : w0 ≤ wd.heap.size := by have h1 := HW0.out; have := (HG.out.trans HGC.out).below.size; omega
              have hwz2 : w0 ≤ (wd.alloc (.cells (spC gm) 60)).heap.size := by simp; omega
              have hown3 := own_moreX hown2 ((Grows.refl wd).alloc (.cells (spC gm) 60))
              have hdl : done.length ≤ 1000000 := by have := HQ.out.2; omega
              have iM := Blk.inHeap HBC.out (by have := HGS.out; omega)
              clear hown2
              go_wp2_with (at_builtin; go_must (refine wpList_append_blk elemSp (.tmp 47) (.tmp 49) w0 u6 done.length (flat done) wd.heap.size (spC gm) rfl rfl (by simp [Act.eval, Act.put]) hown3 (by simp [Act.eval, Act.put]) (blk_alloc_at _ _ _ _ rfl) HGS.out (spC_one _) hdl hwz2 ?_); intro e9 cap9 w9 ho9 hc9 hn9)
              go_meet
              refine ⟨by simp only [if_true]; rw [flat_snoc, List.length_append]; exact ho9, ?_⟩
              exact Chg.grows (n := 0) ((HG.out.trans HGC.out).alloc _) hc9 fun b hb => by rw [← HW0.out]; exact (own_ltX HOWN.out hb).2
          case rest =>
            obtain ⟨hown4, hg4⟩ := hcut
            have HO4 := Lib.hid hown4
            have HG4 := Lib.hid hg4
            have hTT : (decide (a < b) || !((a : Int) == e)) = true ↔ ((a : Int) < (b : Int) ∨ (a : Int) ≠ e) := by simp
            rw [HT.out] at hTT
            have hd4 : (done ++ (if T then [gm] else [])) ++ subM s f q (if (a : Int) = (b : Int) then b + 1 else b) b = R := by
              rw [List.append_assoc, ← HD3.out]
              congr 2
              cases T with
              | true => rw [if_pos rfl, if_pos (hTT.1 rfl)]
              | false => rw [if_neg (by decide), if_neg fun h => by have := hTT.2 h; cases this]
            have HD4 := Lib.hid hd4
            have hl4 : (done ++ (if T then [gm] else [])).length ≤ done.length + 1 := by cases T <;> simp
            have HL4 := Lib.hid hl4
            clear hown4 hg4 hTT hd4 hl4
            by_cases hab : a = b
            · subst hab
              go_wp2_with fail
              go_roundg q
              case measure => have := HGQ.out; omega
              case rel => exact ⟨_, a + 1, a, _, rfl, rfl, by go_num, by omega, by omega, by omega, by simpa using HD4.out, by have := HQ.out.1; have := HGQ.out; omega, by have := HQ.out.2; have := HGQ.out; have := HL4.out; omega, HO4.out, HG4.out⟩
            · have h1 : ((a : Int) == (b : Int)) = false := by rw [beq_eq_false_iff_ne]; omega
              have h2 : ¬ (a : Int) = (b : Int) := by omega
              go_wp2_with fail
              go_roundg q
              case measure => have := HGQ.out; omega
              case rel => exact ⟨_, b, b, _, rfl, rfl, rfl, by omega, by omega, by omega, by have := HD4.out; rwa [if_neg h2] at this, by have := HQ.out.1; have := HGQ.out; omega, by have := HQ.out.2; have := HGQ.out; have := HL4.out; omega, HO4.out, HG4.out⟩
    · have k1 : ¬ (k : Int) ≤ (s.length : Int) := by omega
      have hRd : R = done := by
        have := HDONE.out
        cases gk with
        | zero => simpa [subM] using this.symm
        | succ n => unfold subM at this; rw [if_pos (by omega)] at this; simpa using this.symm
      have HRD := Lib.hid hRd
      clear hRd HDONE
      go_wp2_with fail
      rw [HRD.out]
      exact bodyPost_ret (v := .tuple #[u6, .int .i64 0]) (by simp [results, Tryz.results7, go_sem]; try rfl) rfl ⟨u6, rfl, by rw [← HW0.out]; exact HOWN.out, HG.out⟩
end
end Go.Proofs.YtkomggeionofbaaGreatDoor
