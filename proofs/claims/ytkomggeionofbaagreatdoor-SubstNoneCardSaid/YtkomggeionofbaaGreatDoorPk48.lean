/-
  Several texts of the proof: BuilderC, SubL.
-/
import Derived.Test.YtkomggeionofbaaGreatDoorPk45
import Derived.Test.YtkomggeionofbaaGreatDoorPk12
import Derived.Test.YtkomggeionofbaaGreatDoorPk23
import Derived.Test.YtkomggeionofbaaGreatDoorPk47
import Derived.Test.YtkomggeionofbaaGreatDoorPk46
import Derived.Test.YtkomggeionofbaaGreatDoorPk40
import Derived.Test.YtkomggeionofbaaGreatDoorPk00
import Derived.Lib.SplitLaws
set_option linter.unusedSimpArgs false
set_option linter.unusedVariables false
/-
  strings.Builder: WriteString writes into the builder and its own buffer alone.
-/
namespace Go.Proofs.YtkomggeionofbaaGreatDoor
open Go.RowKit

set_option maxRecDepth 3000 in
theorem copyCheck_chg (b : Nat) (p v : Value) (w : World) (hp : p = .pointer none ∨ p = .pointer (some ⟨b, 0, none⟩)) (hb : w.heap[b]? = some (.cells #[p, v] 66 (0, 0))) :
    Calls Tryz.prog 34 #[.pointer (some ⟨b, 0, none⟩)] w fun e w' => e = .returned (.tuple #[]) ∧ w'.heap[b]? = some (.cells #[.pointer (some ⟨b, 0, none⟩), v] 66 (0, 0)) ∧ Chg (fun x => x = b) w w' := by
  have hB : Lib.BuilderAt 66 5 0 b p [] w ∨ True := .inr trivial
  have c0 : w.cell? ⟨b, 0, none⟩ = some p := by rw [Lib.cell_of_heap hb]; rfl
  rcases hp with rfl | rfl
  · have hsh : w.shape? b = some (66, 2) := by simp [World.shape?, hb]
    refine (copyCheck_fresh b w c0 hsh (Lib.frozen_of_heap hb 0)).mono ?_
    rintro e w' ⟨rfl, rfl⟩
    exact ⟨rfl, by simp [World.setCell, Array.getElem?_modify, hb], Chg.setCell (p := fun x => x = b) rfl _⟩
  · refine (copyCheck_used b w c0).mono ?_
    rintro e w' ⟨rfl, rfl⟩
    exact ⟨rfl, hb, Chg.refl _ _⟩
set_option maxRecDepth 3000 in
set_option maxHeartbeats 1000000 in
theorem writeString_chg (B b : Nat) (bs : List Value) (s : ByteArray) (w : World) (p v : Value) (hp : p = .pointer none ∨ p = .pointer (some ⟨b, 0, none⟩)) (hB : B ≤ b) (hb : w.heap[b]? = some (.cells #[p, v] 66 (0, 0))) (hown : w.ownsRow B 5 1 v bs.length bs) (hne : v.ownBlock ≠ some b) (hlen : bs.length + s.size ≤ 140737488355328) (hBw : B ≤ w.heap.size) :
    Calls Tryz.prog 16 #[.pointer (some ⟨b, 0, none⟩), .string s] w fun e w' => e = .returned (.tuple #[.int .i64 s.size, .nilIface]) ∧ Lib.BuilderAt 66 5 B b (.pointer (some ⟨b, 0, none⟩)) (bs ++ Lib.strCells s) w' ∧ Chg (fun x => x = b ∨ v.ownBlock = some x) w w' := by
  obtain ⟨i0, hi, hz0, hz1, hz2⟩ := info_parts infoByte
  go_enter Tryz.func16, Tryz.ntmps16
  go_wp2_with fail
  refine (copyCheck_chg b p v _ hp hb).mono ?_
  rintro e w1 ⟨rfl, hbk, hC1⟩
  have hown1 := own_chgX hown hC1 (fun x hx e => hne (e ▸ hx))
  have hs1 := hC1.size
  have c0 : w1.cell? ⟨b, 0, none⟩ = some (.pointer (some ⟨b, 0, none⟩)) := by rw [Lib.cell_of_heap hbk]; rfl
  have c1 : w1.cell? ⟨b, 1, none⟩ = some v := by rw [Lib.cell_of_heap hbk]; rfl
  go_wp2_with (at_builtin; refine Lib.wpList_append_own_string _ rfl _ _ 64 9 rfl B 5 i0 Tryz.underlying64 Tryz.underlying9 hi hz0 hz1 hz2 _ _ _ rfl hown1 s rfl ?c3 ?c4 ?c5 ?_)
  case c3 => unfold maxLen; omega
  case c4 => omega
  case c5 => omega
  intro v' w2 hown' hgrow _
  have hlt : b < w1.heap.size := (Array.getElem?_eq_some_iff.1 hbk).1
  have hb2 : w2.heap[b]? = some (.cells #[.pointer (some ⟨b, 0, none⟩), v] 66 (0, 0)) := by
    rw [hgrow.block b hlt (fun e => hne e.symm)]
    exact hbk
  have d0 : w2.cell? ⟨b, 0, none⟩ = some (.pointer (some ⟨b, 0, none⟩)) := by rw [Lib.cell_of_heap hb2]; rfl
  have d1 : w2.cell? ⟨b, 1, none⟩ = some v := by rw [Lib.cell_of_heap hb2]; rfl
  have f1 : w2.frozen? ⟨b, 1, none⟩ = false := Lib.frozen_of_heap hb2 1
  obtain ⟨ao, n', cap, rfl⟩ : ∃ ao n' cap, v' = .slice ao n' cap := by
    rcases hown'.2 with ⟨hv, _⟩ | ⟨g, cap, cur, hv, _⟩
    · exact ⟨_, _, _, hv⟩
    · exact ⟨_, _, _, hv⟩
  go_wp2
  go_ret2
  refine ⟨rfl, ?_, ?_⟩
  · exact Lib.BuilderAt.put hB hb2 (bs' := bs ++ Lib.strCells s) (by simpa [Lib.strCells_length] using hown') (by decide)
  · exact ((hC1.mono fun _ _ h => .inl h).trans ((chg_grownX hgrow).mono fun _ _ h => .inr h)).trans (Chg.setCell (p := fun x => x = b ∨ v.ownBlock = some x) (.inl rfl) _)
end Go.Proofs.YtkomggeionofbaaGreatDoor

/-
  Substitution: a line with matches replaced, walked.
-/
namespace Go.Proofs.YtkomggeionofbaaGreatDoor
open Go.RowKit

set_option maxRecDepth 3000 in
theorem sp_load {w : World} {b o : Nat} {c : Array Value} (hc : c.size = 20) (h : ∀ j u, c[j]? = some u → w.cell? ⟨b, o + j, none⟩ = some u) : loadPart Tryz.prog w 60 b o 20 = .ok (.agg c) w := by
  obtain ⟨d, hu, hd, hi⟩ := rowSp
  unfold loadPart
  simp only [Instr.loadAt, Instr.sureAddr, Sem.run_bind, Sem.run_pure, Result.andThen_ok]
  exact run_loadVar_cells w b o 60 c.toList d (fun j v hv => h j v (by rw [← Array.getElem?_toList]; exact hv)) hu hd (by rw [hi]; simp [hc])
set_option maxRecDepth 3000 in
theorem flat_at {R : List Spn} (h : ∀ g ∈ R, g.length = 20) (i j : Nat) (hj : j < 20) (hi : i < R.length) : (flat R)[i * 20 + j]? = (spC R[i])[j]? := by
  have hz : ∀ cs ∈ R.map (fun g => (spC g).toList), cs.length = 20 := by
    intro cs hcs
    obtain ⟨g, hg, rfl⟩ := List.mem_map.1 hcs
    rw [Array.length_toList, spC_size, h g hg]
  have := flatten_at (size := 20) (R.map fun g => (spC g).toList) hz i j hj
  unfold flat
  rw [List.flatMap_def, this, List.getElem?_map, List.getElem?_eq_getElem hi]
  simp
set_option maxRecDepth 3000 in
theorem Rise.lens {s : List UInt8} : ∀ {k : Nat} {l : List Spn}, Rise s k l → ∀ g ∈ l, g.length = 20
  | _, [], _, g, hg => by cases hg
  | _, x :: r, ⟨h1, h2⟩, g, hg => by
    rcases List.mem_cons.1 hg with rfl | hg
    · exact h1.len
    · exact h2.lens g hg
set_option maxRecDepth 3000 in
theorem splitB_sizes (sep : ByteArray) : ∀ (k : Nat) (s : ByteArray), ∀ x ∈ Lib.splitB sep 0 k s, x.size ≤ s.size := by
  intro k
  induction k with
  | zero => intro s x hx; simp [Lib.splitB] at hx; rw [hx]; exact Nat.le_refl _
  | succ k ih =>
    intro s x hx
    unfold Lib.splitB at hx
    split at hx
    · simp at hx; rw [hx]; exact Nat.le_refl _
    · rcases List.mem_cons.1 hx with rfl | hx
      · simp [ByteArray.size_extract]; omega
      · have := ih _ x hx
        simp [ByteArray.size_extract] at this
        omega
/-- What Line answers. -/
def LinePost (w : World) (R : List (List UInt8) × Nat × Int) (e : Ending) (w' : World) : Prop :=
  (R.2.2 = 0 ∧ ∃ A, e = .returned (.tuple #[.slice A R.1.length R.1.length, .int .i64 R.2.1, .int .i64 0]) ∧ Rd w' 1 A R.1.length (lv R.1) ∧ 0 < R.1.length ∧ Grows w w') ∨
  (R.2.2 ≠ 0 ∧ e = .returned (.tuple #[.slice none 0 0, .int .i64 0, .int .i64 R.2.2]) ∧ Grows w w')
set_option maxRecDepth 3000 in
theorem line_nil1 (v : Value) (hv : v = .pointer none ∨ ∃ a, v = .pointer (some a)) (s : List UInt8) (nth : Int) (all : Bool) (w : World) :
    Calls Tryz.prog 8 #[.pointer none, v, .string (tx s), .int .i64 nth, .bool all] w fun e w' => e = .returned (.tuple #[.slice none 0 0, .int .i64 0, .int .i64 1]) ∧ Grows w w' := by
  rcases hv with rfl | ⟨a, rfl⟩
  · go_enter Tryz.func8, Tryz.ntmps8
    go_wp2_with fail
    exact bodyPost_ret (v := .tuple #[.slice none 0 0, .int .i64 0, .int .i64 1]) (by simp [results, Tryz.results8, go_sem]; try rfl) rfl ⟨rfl, Grows.refl _⟩
  · go_enter Tryz.func8, Tryz.ntmps8
    go_wp2_with fail
    exact bodyPost_ret (v := .tuple #[.slice none 0 0, .int .i64 0, .int .i64 1]) (by simp [results, Tryz.results8, go_sem]; try rfl) rfl ⟨rfl, Grows.refl _⟩
set_option maxRecDepth 3000 in
theorem line_nil2 (a : Addr) (s : List UInt8) (nth : Int) (all : Bool) (w : World) :
    Calls Tryz.prog 8 #[.pointer (some a), .pointer none, .string (tx s), .int .i64 nth, .bool all] w fun e w' => e = .returned (.tuple #[.slice none 0 0, .int .i64 0, .int .i64 1]) ∧ Grows w w' := by
  go_enter Tryz.func8, Tryz.ntmps8
  go_wp2_with fail
  exact bodyPost_ret (v := .tuple #[.slice none 0 0, .int .i64 0, .int .i64 1]) (by simp [results, Tryz.results8, go_sem]; try rfl) rfl ⟨rfl, Grows.refl _⟩
set_option maxRecDepth 3000 in
theorem line_low (a b : Addr) (s : List UInt8) (nth : Int) (hn : nth < 1) (all : Bool) (w : World) :
    Calls Tryz.prog 8 #[.pointer (some a), .pointer (some b), .string (tx s), .int .i64 nth, .bool all] w fun e w' => e = .returned (.tuple #[.slice none 0 0, .int .i64 0, .int .i64 2]) ∧ Grows w w' := by
  go_enter Tryz.func8, Tryz.ntmps8
  go_wp2_with fail
  exact bodyPost_ret (v := .tuple #[.slice none 0 0, .int .i64 0, .int .i64 2]) (by simp [results, Tryz.results8, go_sem]; try rfl) rfl ⟨rfl, Grows.refl _⟩
attribute [local go_sem ↓] ldSp_eq stSp_eq zeroSp bldSp_eq
attribute [local go_sem] loadSp storeSp storeSp_if spC_one bldSp_run
section
set_option maxRecDepth 100000 in
set_option maxHeartbeats 16000000 in
theorem line_any (s : List UInt8) (hs : s.length ≤ 1000) (f : Fr) (t : PS) (hnd : AllNd f) (hfz : f.size ≤ 90000) (hrf : t.refs = false) (l : List Tok) (g2 : Nat) (hsm : Small l) (hl : l.length ≤ 100) (hfit : Fits l 1000) (nth : Int) (hn1 : 1 ≤ nth) (hn2 : nth ≤ 1000000) (all : Bool) (ok : Nat → Prop) (g : Nat) (w : World) (hre : ReAt ok w g f t) (htp : IsTpl w g2 l) (htz : TzAt w) (hw : Sane w) :
    Calls Tryz.prog 8 #[.pointer (some ⟨g, 1, none⟩), .pointer (some ⟨g2, 0, none⟩), .string (tx s), .int .i64 nth, .bool all] w (LinePost w (lineV s f l nth all)) := by
  have hcall := matches_any s (by omega) f t hnd hfz hrf ok g w hre htz
  obtain ⟨R, hR⟩ : ∃ R, subMs s f = R := ⟨_, rfl⟩
  have hrise : Rise s 0 R := by rw [← hR]; exact subM_rise _ _ _
  have hRl : R.length ≤ 1002 := by rw [← hR]; have := subM_len (s := s) (f := f) (s.length + 2) 0 (-1); unfold subMs; omega
  rw [hR] at hcall
  obtain ⟨X, hX⟩ : ∃ X, lnF s l nth all 0 R ⟨[], 0, 0⟩ = X := ⟨_, rfl⟩
  have hLV : lineV s f l nth all = if lcheckV (splitL (X.out ++ s.drop X.at_)) = 0 then (splitL (X.out ++ s.drop X.at_), X.n, 0) else ([], 0, 3) := by unfold lineV lineTx; rw [hR, hX]
  obtain ⟨Y, hY⟩ : ∃ Y, lineV s f l nth all = Y := ⟨_, rfl⟩
  rw [hY]
  rw [hY] at hLV
  have HY := Lib.hid hLV
  have HTP := Lib.hid htp
  have HTZ := Lib.hid htz
  have HW := Lib.hid hw
  have HX := Lib.hid hX
  have HRI := Lib.hid hrise
  have HSM := Lib.hid (And.intro hsm hfit)
  clear hR hX hLV hY hrise hre htp htz hw hnd hfz hrf hsm hfit
  have hn1b : ¬ nth < 1 := by omega
  go_enter Tryz.func8, Tryz.ntmps8
  go_wp2_with fail
  (with_reducible refine hcall.mono ?_)
  rintro e9 wM ⟨v, rfl, hown, hgM⟩
  obtain ⟨A, cap, rfl, -, -, hrd, -, -⟩ := own_rdX hown
  have HGM := Lib.hid hgM
  have HRD := Lib.hid hrd
  obtain ⟨bB, hbB⟩ : ∃ z, z = wM.heap.size := ⟨_, rfl⟩
  have HBB := Lib.hid hbB
  have hB0 : Lib.IsBuilder 66 5 bB bB (Lib.byteCells []) (wM.alloc (.cells #[.pointer none, .slice none 0 0] 66)) := by
    rw [hbB]
    exact .inl ⟨Nat.le_refl _, .slice none 0 0, World.alloc_heap_new _ _, World.ownsRow_nil _ _ _ _, by simp [Value.ownBlock]⟩
  have hg0 : Grows wM (wM.alloc (.cells #[.pointer none, .slice none 0 0] 66)) := (Grows.refl _).alloc _
  have HB0 := Lib.hid hB0
  have HG0 := Lib.hid hg0
  clear hcall hown hgM hrd hB0 hg0
  go_upto_region 9 with fail
  rw [← hbB]
  clear hbB
  generalize wM.alloc (.cells #[.pointer none, .slice none 0 0] 66) = w0 at *
  go_wp2_with fail
  go_loopg [11, 15, 16, 17, 37] R.length (fun q v11 v15 _ _ v37 wr => ∃ (i : Nat) (x : LnS), q + i = R.length ∧ v37 = .int .i64 i ∧ v15 = .int .i64 x.at_ ∧ v11 = .int .i64 x.n ∧ x.n ≤ i ∧ x.at_ ≤ s.length ∧ x.out.length ≤ i * 102000 ∧ Rise s x.at_ (R.drop i) ∧ lnF s l nth all i (R.drop i) x = X ∧ Lib.IsBuilder 66 5 bB bB (Lib.byteCells x.out) wr ∧ Grows wM wr)
  case atStart => exact ⟨0, ⟨[], 0, 0⟩, by omega, rfl, rfl, rfl, Nat.le_refl _, by simp, by simp, HRI.out, HX.out, HB0.out, HG0.out⟩
  case round =>
    obtain ⟨i, x, hq, rfl, rfl, rfl, hxn, hxa, hxo, hri, hln, hbld, hg⟩ := hrel
    have HQ := Lib.hid hq
    have HG := Lib.hid hg
    have HLN := Lib.hid hln
    have HRJ := Lib.hid hri
    have HBL := Lib.hid hbld
    clear hq hg hln hri hbld
    by_cases hi : i < R.length
    · have i1 : (i : Int) < (R.length : Int) := by omega
      have hi9 : i ≤ 1002 := by omega
      have hdr : R.drop i = R[i] :: R.drop (i + 1) := List.drop_eq_getElem_cons hi
      have hri := HRJ.out
      have hln := HLN.out
      rw [hdr] at hri hln
      obtain ⟨hmin, hrest⟩ := hri
      obtain ⟨bL, oL, hA, hbl, hcl⟩ := (HRD.out.grows HG.out).2 (by omega)
      have hlens := HRI.out.lens
      have hL : loadPart Tryz.prog wr 60 bL (oL + i * 20) 20 = .ok (.agg (spC R[i])) wr := sp_load (by rw [spC_size]; exact hmin.len) fun j u hu => by
        have hj : j < 20 := by have := (Array.getElem?_eq_some_iff.1 hu).1; rw [spC_size, hmin.len] at this; exact this
        rw [Nat.add_assoc]
        exact hcl (i * 20 + j) u (by rw [flat_at hlens i j hj hi]; exact hu)
      subst hA
      generalize R[i] = gm at *
      have HREST := Lib.hid (And.intro hrest hln)
      have hml := hmin.len
      have hm1 := hmin.lo
      have hm2 := hmin.le
      have hm3 := hmin.hi
      rw [show spA gm 0 = gm.getD 0 0 from rfl] at hm1 hm2
      rw [show spB gm 0 = gm.getD 1 0 from rfl] at hm2 hm3
      obtain ⟨a, ha⟩ : ∃ a : Nat, gm.getD 0 0 = a := ⟨(gm.getD 0 0).toNat, by omega⟩
      obtain ⟨b, hb⟩ : ∃ b : Nat, gm.getD 1 0 = b := ⟨(gm.getD 1 0).toNat, by omega⟩
      rw [ha] at hm1 hm2
      rw [hb] at hm2 hm3
      have HAB := Lib.hid (And.intro (show spA gm 0 = a from ha) (show spB gm 0 = b from hb))
      have hgs : (spC gm).size = 20 := by rw [spC_size]; exact hml
      have hz : (spC spZero).size = 20 := by rw [spC_size]; rfl
      have hov : over (spC spZero) 0 (spC gm) = spC gm := over_all (by omega)
      obtain ⟨pB, vB, hpB, hhB, hoB, hneB⟩ : ∃ p v, (p = .pointer none ∨ p = .pointer (some ⟨bB, 0, none⟩)) ∧ wr.heap[bB]? = some (.cells #[p, v] 66 (0, 0)) ∧ wr.ownsRow bB 5 1 v (Lib.byteCells x.out).length (Lib.byteCells x.out) ∧ v.ownBlock ≠ some bB := by
        rcases HBL.out with ⟨_, v, q1, q2, q3⟩ | ⟨_, v, q1, q2, q3⟩
        · exact ⟨_, v, .inl rfl, q1, q2, q3⟩
        · exact ⟨_, v, .inr rfl, q1, q2, q3⟩
      have hg5 : Grows wr (wr.alloc (.cells (spC gm) 60)) := (Grows.refl _).alloc _
      have HG5 := Lib.hid (HG.out.trans hg5)
      have hb5 : blk (wr.alloc (.cells (spC gm) 60)) wr.heap.size = spC gm := blk_alloc_at _ _ _ _ rfl
      have hbBl : bB < wr.heap.size := (Array.getElem?_eq_some_iff.1 hhB).1
      have hh5 : (wr.alloc (.cells (spC gm) 60)).heap[bB]? = some (.cells #[pB, vB] 66 (0, 0)) := by rw [Below.heap_alloc _ _ _ hbBl]; exact hhB
      have HNE := Lib.hid (show wr.heap.size ≠ bB ∧ vB.ownBlock ≠ some wr.heap.size by
        refine ⟨by omega, fun e => ?_⟩
        have := (own_ltX hoB e).1
        omega)
      have HO5 := Lib.hid (own_moreX hoB hg5)
      have HOL := Lib.hid (fun b0 (hb0 : vB.ownBlock = some b0) => (own_ltX hoB hb0).2)
      have hbld5 : Lib.IsBuilder 66 5 bB bB (Lib.byteCells x.out) (wr.alloc (.cells (spC gm) 60)) := builder_grows HBL.out hg5
      have HBL5 := Lib.hid hbld5
      obtain ⟨wi, hwi⟩ : ∃ z, z = wr := ⟨_, rfl⟩
      subst hwi
      clear hdr hln hmin hrest hlens hcl hhB hoB hg5 hbld5 HRJ HLN
      go_upto_region 13 with fail
      obtain ⟨bE, hbE⟩ : ∃ z, z = wi.heap.size := ⟨_, rfl⟩
      have HNE2 := HNE.out
      rw [← hbE] at hb5 HNE2 ⊢
      have HNE2 := Lib.hid HNE2
      clear hbE hov hL HNE
      generalize wi.alloc (.cells (spC gm) 60) = w5 at *
      have c0 := (Blk.cell hb5 (by omega) 0).trans (spC_get (by omega))
      have c1 := (Blk.cell hb5 (by omega) 1).trans (spC_get (by omega))
      rw [ha] at c0
      rw [hb] at c1
      have iE := Blk.inHeap hb5 (by omega)
      have HC1 := Lib.hid c1
      obtain ⟨T, hT⟩ : ∃ T, skipB nth all i = T := ⟨_, rfl⟩
      have HT := Lib.hid hT
      have hB5 := Lib.hid hb5
      clear c1 hb5
      go_cut [55] (fun v55 wx => v55 = .bool T ∧ wx = w5)
      case first =>
        unfold skipB at hT
        by_cases h1 : (i : Int) + 1 < nth
        · have h1b : decide ((i : Int) + 1 < nth) = true := decide_eq_true h1
          rw [h1b] at hT
          obtain rfl : true = T := hT
          go_wp2_with fail
          go_meet
          exact ⟨rfl, rfl⟩
        · have h1b : decide ((i : Int) + 1 < nth) = false := decide_eq_false h1
          rw [h1b, Bool.false_or] at hT
          by_cases h2 : nth < (i : Int) + 1
          · have h2b : decide (nth < (i : Int) + 1) = true := decide_eq_true h2
            rw [h2b, Bool.true_and] at hT
            subst hT
            go_wp2_with fail
            go_meet
            exact ⟨rfl, rfl⟩
          · have h2b : decide (nth < (i : Int) + 1) = false := decide_eq_false h2
            rw [h2b, Bool.false_and] at hT
            subst hT
            go_wp2_with fail
            go_meet
            exact ⟨rfl, rfl⟩
      case rest =>
        obtain ⟨rfl, hw5⟩ := hcut
        have hw5 := hw5.symm
        subst hw5
        clear hT
        cases T with
        | true =>
          clear c0
          go_wp2_with fail
          go_roundg (gk - 1)
          case measure => have := HQ.out; omega
          case rel => exact ⟨i + 1, x, by have := HQ.out; omega, by go_num, rfl, rfl, by omega, hxa, Nat.le_trans hxo (Nat.mul_le_mul_right _ (Nat.le_succ i)), HREST.out.1.low (by rw [HAB.out.2]; omega), by have := HREST.out.2; unfold lnF lnStep at this; rwa [if_pos HT.out] at this, HBL5.out, HG5.out⟩
        | false =>
          have hstep : lnStep s l nth all i gm x = ⟨x.out ++ ((s.drop x.at_).take (a - x.at_) ++ outV s gm l), b, x.n + 1⟩ := by
            unfold lnStep
            rw [HT.out, HAB.out.1, HAB.out.2]
            simp
          have hlnn := HREST.out.2
          unfold lnF at hlnn
          rw [hstep] at hlnn
          have hol := outV_len s gm l 1000 HSM.out.2 hs
          have hol2 : (outV s gm l).length ≤ 100000 := Nat.le_trans hol (by have := Nat.mul_le_mul_right 1000 hl; omega)
          have hcut1 : ((s.drop x.at_).take (a - x.at_)).length ≤ 1000 := by rw [List.length_take, List.length_drop]; omega
          have hx1 : (tx s).extract x.at_ a = tx ((s.drop x.at_).take (a - x.at_)) := tx_mid _ _ _
          have hqe : ∀ W, Grows w5 W → Calls Tryz.prog 17 #[.pointer (some ⟨g2, 0, none⟩), .string (tx s), .agg (spC gm)] W fun e w' => e = .returned (.string (tx (outV s gm l))) ∧ Grows w5 w' := fun W h => (expand_some g2 l s gm W ((HTP.out.grows (HGM.out.trans HG5.out)).grows h) HSM.out.1 (by omega) (fun t ht => Nat.le_trans (HSM.out.2 t ht) (by decide)) hml (by omega)).mono fun e w' ⟨h1, h2⟩ => ⟨h1, h.trans h2⟩
          obtain ⟨ot, hot⟩ : ∃ z, outV s gm l = z := ⟨_, rfl⟩
          obtain ⟨ct, hct⟩ : ∃ z, (s.drop x.at_).take (a - x.at_) = z := ⟨_, rfl⟩
          rw [hot] at hol2 hqe hlnn
          rw [hct] at hcut1 hx1 hlnn
          have hlen7 : (Lib.byteCells x.out).length ≤ 110000000 := by rw [Lib.byteCells_length]; have := Nat.mul_le_mul_right 102000 hi9; omega
          obtain ⟨st, hst⟩ : ∃ z, ct ++ ot = z := ⟨_, rfl⟩
          have hsl : st.length ≤ 101000 := by rw [← hst, List.length_append]; omega
          have hcat : tx ct ++ tx ot = tx st := by rw [← hst]; exact tx_append _ _
          have hnl : ¬ 9223372036854775807 < ct.length + ot.length := by omega
          have hw5b : bB ≤ w5.heap.size := by have h1 := HBB.out; have := HG5.out.below.size; omega
          have hqs : ∀ W, Grows w5 W → Calls Tryz.prog 16 #[.pointer (some ⟨bB, 0, none⟩), .string (tx st)] W fun e w' => e = .returned (.tuple #[.int .i64 (tx st).size, .nilIface]) ∧ Lib.BuilderAt 66 5 bB bB (.pointer (some ⟨bB, 0, none⟩)) (Lib.byteCells x.out ++ Lib.strCells (tx st)) w' ∧ Chg (fun y => y = bB ∨ vB.ownBlock = some y) w5 w' := fun W h =>
            (writeString_chg bB bB (Lib.byteCells x.out) (tx st) W pB vB hpB (Nat.le_refl _) (by obtain ⟨m, rfl⟩ := h; rw [heap_more w5 m bB (Array.getElem?_eq_some_iff.1 hh5).1]; exact hh5) (own_moreX HO5.out h) hneB (by rw [tx_size]; omega) (by have := h.below.size; omega)).mono fun e w' ⟨h1, h2, h3⟩ => ⟨h1, h2, (Chg.of_grows h).trans h3⟩
          have QE := Lib.hid hqe
          have QS := Lib.hid hqs
          have HSA : Hid (∀ w', Chg (fun y => y = bB ∨ vB.ownBlock = some y) w5 w' → (w'.cell? ⟨bE, 0, none⟩ = some (.int .i64 a) ∧ w'.rangeAt bE 0 (spC gm).toList)) := Lib.hid fun w' hg => ⟨(hg.cell (a := ⟨bE, 0, none⟩) iE (fun h => h.elim HNE2.out.1 HNE2.out.2)).trans c0, fun j v hj => by
            rw [Nat.zero_add, Blk.cell ((chg_blk hg iE (fun h => h.elim HNE2.out.1 HNE2.out.2)).trans hB5.out) (by omega), ← Array.getElem?_toList]; exact hj⟩
          have hu23 := Tryz.underlying60
          have hi23 : (Tryz.prog.info? 60).map (·.size) = some (spC gm).toList.length := by rw [Array.length_toList, hgs]; kernel_rfl
          have hxat : (x.at_ : Int) ≤ (a : Int) := by omega
          have has : (a : Int) ≤ (s.length : Int) := by omega
          rw [hst] at hlnn
          have HLNN := Lib.hid hlnn
          clear hlnn hol hqe hqs c0 hot hct hstep
          go_upto_region 14 with fail
          go_cut [] (fun wx => Lib.BuilderAt 66 5 bB bB (.pointer (some ⟨bB, 0, none⟩)) (Lib.byteCells x.out ++ Lib.strCells (tx st)) wx ∧ Chg (fun y => y = bB ∨ vB.ownBlock = some y) w5 wx)
          case first =>
            go_region_held3 (fun w' => w'.cell? ⟨bE, 0, none⟩ = some (.int .i64 a) ∧ w'.rangeAt bE 0 (spC gm).toList)
              (exact HSA.out _ (by repeat' first | exact Chg.refl _ _ | exact CS.out | exact Chg.of_grows GE.out | refine chgDrewN ?_ _ | refine chgDrew ?_))
              (first
                | (go_at_call 17; (refine Calls.mono (QE.out _ ?_) ?_); (repeat' first | exact Grows.refl _ | refine Grows.drewN ?_ _ | refine Grows.drew ?_); rintro e9 wE ⟨rfl, hGE⟩; have GE := Lib.hid hGE; clear hGE)
                | (go_at_call 16; (refine Calls.mono (QS.out _ ?_) ?_); (repeat' first | exact GE.out | exact Grows.refl _ | refine Grows.drewN ?_ _ | refine Grows.drew ?_); rintro e9 wS ⟨rfl, hBS, hCS⟩; have BS := Lib.hid hBS; have CS := Lib.hid hCS; clear hBS hCS))
            all_goals (
              go_wp2_with fail
              go_meet
              exact ⟨BS.out, by repeat' first | exact CS.out | refine chgDrewN ?_ _ | refine chgDrew ?_⟩)
          case rest =>
            obtain ⟨hBS, hCS⟩ := hcut
            have hc1 := (hCS.cell (a := ⟨bE, 1, none⟩) iE (fun h => h.elim HNE2.out.1 HNE2.out.2)).trans HC1.out
            have iE2 : InHeap bE wc := World.block_lt_of_cell? _ _ hc1
            have HGF := Lib.hid (Chg.grows (n := 0) HG5.out hCS fun y hy => by
              rcases hy with rfl | hy
              · have := HBB.out; omega
              · have := HOL.out y hy; have := HBB.out; omega)
            have HBF : Hid (Lib.IsBuilder 66 5 bB bB (Lib.byteCells (x.out ++ st)) wc) := Lib.hid (.inr (by rw [Lib.byteCells_append]; exact hBS))
            clear hBS hCS iE
            go_wp2_with fail
            go_roundg (gk - 1)
            case measure => have := HQ.out; omega
            case rel => exact ⟨i + 1, ⟨x.out ++ st, b, x.n + 1⟩, by have := HQ.out; omega, by go_num, rfl, by go_num, by simp only []; omega, by simp only []; omega, by simp only [List.length_append]; rw [Nat.succ_mul]; omega, by have := HREST.out.1; rw [HAB.out.2] at this; exact this, HLNN.out, HBF.out, HGF.out⟩
    · have i1 : ¬ (i : Int) < (R.length : Int) := by omega
      have hie : i = R.length := by have := HQ.out; omega
      have hdn : R.drop i = [] := by rw [hie]; simp
      have hXx : x = X := by have := HLN.out; rw [hdn] at this; exact this
      subst hXx
      obtain ⟨pB, vB, hpB, hhB, hoB, hneB⟩ : ∃ p v, (p = .pointer none ∨ p = .pointer (some ⟨bB, 0, none⟩)) ∧ wr.heap[bB]? = some (.cells #[p, v] 66 (0, 0)) ∧ wr.ownsRow bB 5 1 v (Lib.byteCells x.out).length (Lib.byteCells x.out) ∧ v.ownBlock ≠ some bB := by
        rcases HBL.out with ⟨_, v, q1, q2, q3⟩ | ⟨_, v, q1, q2, q3⟩
        · exact ⟨_, v, .inl rfl, q1, q2, q3⟩
        · exact ⟨_, v, .inr rfl, q1, q2, q3⟩
      have hi9 : i ≤ 1002 := by omega
      have hlen7 : (Lib.byteCells x.out).length ≤ 110000000 := by rw [Lib.byteCells_length]; have := Nat.mul_le_mul_right 102000 hi9; omega
      have hwb : bB ≤ wr.heap.size := by have h1 := HBB.out; have := HG.out.below.size; omega
      have hx1 : (tx s).extract x.at_ s.length = tx (s.drop x.at_) := tx_from _ _
      have hdl : (s.drop x.at_).length ≤ 1000 := by rw [List.length_drop]; omega
      obtain ⟨st, hst⟩ : ∃ z, s.drop x.at_ = z := ⟨_, rfl⟩
      rw [hst] at hx1 hdl
      have hqs := writeString_chg bB bB (Lib.byteCells x.out) (tx st) wr pB vB hpB (Nat.le_refl _) hhB hoB hneB (by rw [tx_size]; omega) hwb
      have HST := Lib.hid hst
      have HOL := Lib.hid (fun b0 (hb0 : vB.ownBlock = some b0) => (own_ltX hoB hb0).2)
      have hxat : (x.at_ : Int) ≤ (s.length : Int) := by omega
      have hxol : x.out.length ≤ 110000000 := by rw [Lib.byteCells_length] at hlen7; exact hlen7
      clear hdn hhB hoB hneB hpB hst
      go_wp2_with fail
      (with_reducible refine hqs.mono ?_)
      rintro e9 w2 ⟨rfl, hBS, hCS⟩
      have hg2 : Grows wM w2 := Chg.grows (n := 0) HG.out hCS fun y hy => by
        rcases hy with rfl | hy
        · have := HBB.out; omega
        · have := HOL.out y hy; have := HBB.out; omega
      have hIB : Lib.IsBuilder 66 5 bB bB (Lib.byteCells (x.out ++ st)) w2 := .inr (by rw [Lib.byteCells_append]; exact hBS)
      have hcall := Tryz.Builder_String_any bB bB (x.out ++ st) w2 hIB (by have h1 := HBB.out; have := hg2.below.size; omega)
      have HG2 := Lib.hid hg2
      clear hBS hCS hqs hIB hg2
      go_wp2_with fail
      (with_reducible refine hcall.mono ?_)
      rintro e9 w3 ⟨rfl, hB3⟩
      have HG3 : Hid (Grows wM w3) := Lib.hid (by
        have hb := hB3
        rw [HBB.out] at hb
        exact Grows.of_below (HG2.out.below.trans hb))
      obtain ⟨m, hm⟩ := HW.out.grows (HGM.out.trans HG3.out)
      have hLn : (x.out ++ st).length ≤ 110001000 := by simp; omega
      have hYY := HY.out
      rw [HST.out] at hYY
      generalize x.out ++ st = ln at *
      have hsp := Tryz.strings_Split (tx ln) ⟨#[10]⟩ m w3 (by rw [tx_size]; omega) hm (by decide)
      obtain ⟨N, hN⟩ : ∃ N, Lib.countB (tx ln) ⟨#[10]⟩ = N := ⟨_, rfl⟩
      obtain ⟨L, hL⟩ : ∃ L, Lib.splitB ⟨#[10]⟩ 0 N (tx ln) = L := ⟨_, rfl⟩
      rw [hN, hL] at hsp
      have hNl : N ≤ ln.length := by rw [← hN]; have := Lib.countB_le ⟨#[10]⟩ (by decide) (tx ln).size (tx ln) (Nat.le_refl _); rwa [tx_size] at this
      have hLl : L.length = N + 1 := by rw [← hL]; exact Lib.splitB_all _ (by decide) 0 N _ hN
      have hLs : ∀ x ∈ L, x.size ≤ ln.length := fun x hx => by rw [← hL] at hx; have := splitB_sizes _ N (tx ln) x hx; rwa [tx_size] at this
      have hSL : splitL ln = L.map fun x => x.data.toList := by unfold splitL; rw [show tx [10] = (⟨#[10]⟩ : ByteArray) from rfl, hN, hL]
      obtain ⟨SL, hSLe⟩ : ∃ z, splitL ln = z := ⟨_, rfl⟩
      rw [hSLe] at hSL hYY
      have hSLl : SL.length = N + 1 := by rw [hSL, List.length_map]; exact hLl
      have hlv : L.map Value.string = lv SL := by
        rw [hSL]
        unfold lv
        rw [List.map_map]
        try rw [List.map_map]
        refine List.map_congr_left fun x _ => ?_
        simp only [Function.comp_apply, tx_of]
      have hSLs : ∀ x ∈ SL, x.length ≤ 9223372036854775807 := fun x hx => by
        rw [hSL] at hx
        obtain ⟨y, hy, rfl⟩ := List.mem_map.1 hx
        have h1 := hLs y hy
        have h2 : y.data.toList.length = y.size := Array.length_toList
        omega
      rw [hlv] at hsp
      change Calls _ _ #[.string ⟨ln.toArray⟩, _] _ _ at hsp
      have HYY := Lib.hid hYY
      clear hL hLl hLs hSL hSLe hlv hYY hm hcall hB3
      go_wp2_with fail
      (with_reducible refine hsp.mono ?_)
      rintro e9 w4 ⟨rfl, rfl⟩
      have hb4 : blk (w3.alloc (.cells (lv SL).toArray 9)) w3.heap.size = (lv SL).toArray := blk_alloc_at _ _ _ _ rfl
      have hlvl : (lv SL).toArray.size = SL.length * 1 := by simp [lv]
      have hrd4 := rd_blk (n := SL.length) (size := 1) hb4 hlvl (by rw [hlvl, hSLl]; omega)
      have hg4 : Grows w3 (w3.alloc (.cells (lv SL).toArray 9)) := (Grows.refl _).alloc _
      have HG4 := Lib.hid ((HGM.out.trans HG3.out).trans hg4)
      have hck := lcheck_any (some ⟨w3.heap.size, 0, none⟩) (N + 1) SL _ hrd4 (by omega) hSLs
      have HRD4 := Lib.hid hrd4
      rw [hSLl] at hck
      obtain ⟨C, hC⟩ : ∃ C, lcheckV SL = C := ⟨_, rfl⟩
      rw [hC] at hck
      have hYY := HYY.out
      rw [hC] at hYY
      have HYY := Lib.hid hYY
      clear hsp hrd4 hg4 hYY hb4 hlvl
      go_upto_region 20 with fail
      obtain ⟨bS, hbS⟩ : ∃ z, z = w3.heap.size := ⟨_, rfl⟩
      have HRD5 := HRD4.out
      rw [← hbS] at hck HRD5 ⊢
      have HRD5 := Lib.hid HRD5
      clear hbS HRD4
      generalize w3.alloc (.cells (lv SL).toArray 9) = w4 at *
      go_wp2_with fail
      (with_reducible refine hck.mono ?_)
      rintro e9 w5 ⟨rfl, hw5⟩
      subst hw5
      clear hck
      by_cases hC0 : C = 0
      · subst hC0
        have hY := HYY.out
        rw [if_pos rfl] at hY
        go_wp2_with fail
        rw [hY]
        exact bodyPost_ret (v := .tuple #[.slice (some ⟨bS, 0, none⟩) (N + 1) (N + 1), .int .i64 x.n, .int .i64 0]) (by simp [results, Tryz.results8, go_sem]; try rfl) rfl (.inl ⟨rfl, _, by simp only []; rw [hSLl], by simp only []; exact by have := HRD5.out; simpa using this, by simp only []; omega, HG4.out⟩)
      · have hY := HYY.out
        rw [if_neg hC0] at hY
        have hCb : (C == (0 : Int)) = false := by rw [beq_eq_false_iff_ne]; exact hC0
        go_wp2_with fail
        rw [hY]
        exact bodyPost_ret (v := .tuple #[.slice none 0 0, .int .i64 0, .int .i64 3]) (by simp [results, Tryz.results8, go_sem]; try rfl) rfl (.inr ⟨by decide, rfl, HG4.out⟩)
end
end Go.Proofs.YtkomggeionofbaaGreatDoor
