/-
  The law MatchGroups, walked.
-/
import Derived.Test.YtnjagecmhdagkaaDoorPk45
import Derived.Test.YtnjagecmhdagkaaDoorPk46
import Derived.Test.YtnjagecmhdagkaaDoorPk47
import Derived.Test.YtnjagecmhdagkaaDoorPk25
import Derived.Deep.RegionHeld3
set_option linter.unusedSimpArgs false
set_option linter.unusedVariables false
namespace Go.Proofs.YtnjagecmhdagkaaDoor
open Go.RowKit

set_option maxRecDepth 3000 in
theorem infoAtom : (Tryd.prog.info? 69).map (fun i => (i.zero, i.size, i.bytes)) = some (some (.agg #[.int .u8 0, .bool false, .bool false]), 3, 3) := by kernel_rfl
set_option maxRecDepth 3000 in
theorem atoms_one (l : List Atom3) : ∀ u ∈ l.flatMap Atom3.cells, u.oneCell' = true := by
  intro u hu
  obtain ⟨x, _, h⟩ := List.mem_flatMap.1 hu
  simp [Atom3.cells] at h
  rcases h with rfl | rfl | rfl <;> rfl
set_option maxRecDepth 3000 in
theorem own_nextA {W w1 w2 : World} {v : Value} {n : Nat} {xs : List Value} (hb : Grows W w1) (hown : w1.ownsRow W.heap.size 69 3 v n xs) (hgrow : w1.grownBy w2 v.ownBlock) : Grows W w2 :=
  Grows.of_below (hb.below.grown hgrow hb.below.size (fun k e => (hown.lt k e).1))
set_option maxRecDepth 3000 in
theorem rowV3_app (l m : List Atom3) : rowV3 (l ++ m) = rowV3 l ++ rowV3 m := by simp [rowV3]
set_option maxRecDepth 3000 in
theorem patT_drew {w w0 : World} (hg : Grows w w0) (A : Option Addr) (cap : Nat) (l : List Atom3) (hn : CameAtoms w A cap l) (hlen : l.length ≤ 1000) :
    Calls Tryd.prog 14 #[.slice A l.length cap] w0 fun e w' => e = .returned (.string (tx (patA (rowV3 l)))) ∧ Grows w w' := (patT_any A cap l w0 (hn.grows hg) hlen).mono fun e w' ⟨h1, h2⟩ => ⟨h1, hg.trans h2⟩
set_option maxRecDepth 3000 in
theorem at_drew {w w0 : World} (hg : Grows w w0) (p s : List UInt8) (k : Int) (G : Spn) (B : Bool) (hG : atR p s k = (G, B)) (hp : p.length ≤ 1000000) (hs : s.length ≤ 60000) (hw : Sane w) (htz : TzAt w) :
    Calls Tryd.prog 13 #[.string (tx p), .string (tx s), .int .i64 k] w0 fun e w' => (e = .returned (.tuple #[spV G, .bool B]) ∧ G.length = 20) ∧ Grows w w' := by
  have := at_any p s k hp hs w0 (hw.grows hg) (htz.grows hg)
  rw [hG] at this
  exact this.mono fun e w' ⟨h1, h2⟩ => ⟨h1, hg.trans h2⟩
set_option maxRecDepth 3000 in
theorem chg_setCells (b : Nat) : ∀ (vs : List Value) (o : Nat) (w : World), Chg (fun x => x = b) w (w.setCells b o vs)
  | [], _, w => Chg.refl _ w
  | v :: r, o, w => (chg_cell w b o v).trans (chg_setCells b r (o + 1) _)
set_option maxRecDepth 3000 in
theorem there_grows {w w' : World} {b o n : Nat} (h : w.there b o n) (hg : Grows w w') : w'.there b o n := fun j hj => by
  obtain ⟨v, hv⟩ := Option.isSome_iff_exists.1 (h j hj).1
  exact ⟨by rw [cellG hv hg]; rfl, ((Chg.of_grows (p := fun _ => False) hg).frozen (World.block_lt_of_cell? w _ hv) fun h => h).trans (h j hj).2⟩
set_option maxRecDepth 3000 in
theorem there_new (w : World) (c : Array Value) (T : TypeId) (n : Nat) (hn : n = c.size) (hc : 0 < c.size) : (w.alloc (.cells c T)).there w.heap.size 0 n := fun j hj => by
  have hb : blk (w.alloc (.cells c T)) w.heap.size = c := blk_alloc_at _ _ _ _ rfl
  exact ⟨by rw [Blk.cell hb hc, Array.getElem?_eq_getElem (by omega)]; rfl, Blk.free hb hc _⟩
set_option maxRecDepth 3000 in
theorem grows_set {w5 W : World} {b o : Nat} {vs : List Value} (hg : Grows w5 W) (hb : w5.heap.size ≤ b) : Grows w5 (W.setCells b o vs) := Chg.grows (n := 0) hg (chg_setCells b vs o W) fun x e => by omega
set_option maxRecDepth 3000 in
theorem set_post {w5 W : World} {b : Nat} {G : Spn} (hl : G.length = 20) (ht : W.there b 0 (List.map (fun v => Value.int .i64 v) G).length) (hg : Grows w5 W) (hb : w5.heap.size ≤ b) : (∀ j, j < 20 → (W.setCells b 0 (List.map (fun v => Value.int .i64 v) G)).cell? ⟨b, j, none⟩ = some (.int .i64 (G.getD j 0))) ∧ Grows w5 (W.setCells b 0 (List.map (fun v => Value.int .i64 v) G)) := by
  refine ⟨fun j hj => ?_, Chg.grows (n := 0) hg (chg_setCells b _ 0 W) fun x e => by omega⟩
  have h := World.cell?_setCells_in b (List.map (fun v => Value.int .i64 v) G) 0 W (fun j hj => (ht j hj).1) j (by rw [List.length_map]; omega)
  rw [Nat.zero_add] at h
  rw [h]
  simp [hl, hj]
attribute [local go_sem ↓] ldSp_eq stSp_eq zeroSp bldSp_eq
attribute [local go_sem] loadSp loadSp_if storeSp storeSp_if spC_one bldSp_run eq_two
set_option maxRecDepth 100000 in
set_option maxHeartbeats 16000000 in
theorem match_groups (A B C : Option Addr) (l1 l2 l3 : List Atom3) (ca cb cc : Nat) (D : Option Addr) (cd : Nat) (ns : List Int) (w : World) (hw : Sane w) (htz : TzAt w) (hA : CameAtoms w A ca l1) (hB : CameAtoms w B cb l2) (hC : CameAtoms w C cc l3) (hD : CameBytes w D cd ns) :
    Calls Tryd.prog 5 #[.agg #[.slice A l1.length ca, .slice B l2.length cb, .slice C l3.length cc], .slice D ns.length cd] w fun e w' => e = .returned (.bool true) ∧ Grows w w' := by
  have HW := Lib.hid hw
  have HTZ := Lib.hid htz
  have HA := Lib.hid hA
  have HB := Lib.hid hB
  have HC := Lib.hid hC
  have HD := Lib.hid hD
  have n1 := hA.len
  have n2 := hB.len
  have n3 := hC.len
  have n4 := hD.len
  have hg1 : Grows w (w.alloc (.cells #[.slice A l1.length ca, .slice B l2.length cb, .slice C l3.length cc] 40)) := (Grows.refl _).alloc _
  have hb1 : blk (w.alloc (.cells #[.slice A l1.length ca, .slice B l2.length cb, .slice C l3.length cc] 40)) w.heap.size = #[.slice A l1.length ca, .slice B l2.length cb, .slice C l3.length cc] := blk_alloc_at _ _ _ _ rfl
  have HG1 := Lib.hid hg1
  clear hw htz hA hB hC hD hg1
  go_enter Tryd.func5, Tryd.ntmps5
  go_upto_region 1 with fail
  obtain ⟨bX, hbX⟩ : ∃ z, z = w.heap.size := ⟨_, rfl⟩
  rw [← hbX] at hb1 ⊢
  clear hbX
  generalize w.alloc (.cells #[.slice A l1.length ca, .slice B l2.length cb, .slice C l3.length cc] 40) = w1 at *
  have c0 : w1.cell? ⟨bX, 0, none⟩ = some (.slice A l1.length ca) := Blk.cell hb1 (by simp) 0
  have c1 : w1.cell? ⟨bX, 1, none⟩ = some (.slice B l2.length cb) := Blk.cell hb1 (by simp) 1
  have c2 : w1.cell? ⟨bX, 2, none⟩ = some (.slice C l3.length cc) := Blk.cell hb1 (by simp) 2
  have iX := Blk.inHeap hb1 (by simp)
  clear hb1
  by_cases k1 : 6 < l1.length
  · have k1i : (6 : Int) < (l1.length : Int) := by omega
    have k1b : decide (6 < l1.length) = true := decide_eq_true k1
    go_wp2_with fail
    go_ret
    exact ⟨rfl, HG1.out⟩
  have k1i : ¬ (6 : Int) < (l1.length : Int) := by omega
  have k1b : decide (6 < l1.length) = false := decide_eq_false k1
  by_cases k2 : 6 < l2.length
  · have k2i : (6 : Int) < (l2.length : Int) := by omega
    have k2b : decide (6 < l2.length) = true := decide_eq_true k2
    go_wp2_with fail
    go_ret
    exact ⟨rfl, HG1.out⟩
  have k2i : ¬ (6 : Int) < (l2.length : Int) := by omega
  have k2b : decide (6 < l2.length) = false := decide_eq_false k2
  by_cases k3 : 6 < l3.length
  · have k3i : (6 : Int) < (l3.length : Int) := by omega
    have k3b : decide (6 < l3.length) = true := decide_eq_true k3
    go_wp2_with fail
    go_ret
    exact ⟨rfl, HG1.out⟩
  have k3i : ¬ (6 : Int) < (l3.length : Int) := by omega
  have k3b : decide (6 < l3.length) = false := decide_eq_false k3
  by_cases k4 : 20 < ns.length
  · have k4i : (20 : Int) < (ns.length : Int) := by omega
    have k4b : decide (20 < ns.length) = true := decide_eq_true k4
    go_wp2_with fail
    go_ret
    exact ⟨rfl, HG1.out⟩
  have k4i : ¬ (20 : Int) < (ns.length : Int) := by omega
  have k4b : decide (20 < ns.length) = false := decide_eq_false k4
  have m1 : l1.length ≤ 6 := by omega
  have m2 : l2.length ≤ 6 := by omega
  have m3 : l3.length ≤ 6 := by omega
  have HCX := Lib.hid (And.intro c0 (And.intro c1 c2))
  have hcall := txt_any D cd ns w1 (HD.out.grows HG1.out) (by omega)
  go_wp2_with fail
  (with_reducible refine hcall.mono ?_)
  rintro e9 w2 ⟨rfl, hg2⟩
  have HG2 := Lib.hid (HG1.out.trans hg2)
  have e0 := cellG HCX.out.1 hg2
  have e1 := cellG HCX.out.2.1 hg2
  have e2 := cellG HCX.out.2.2 hg2
  have iX2 : InHeap bX w2 := World.block_lt_of_cell? _ _ e0
  have HCX2 := Lib.hid (And.intro e0 (And.intro e1 e2))
  have ls := txtV_len ns
  generalize txtV ns = s at *
  have ls9 : s.length ≤ 20 := by omega
  clear hcall hg2 HCX HG1 c0 c1 c2 iX k1 k1i k1b k2 k2i k2b k3 k3i k3b k4 k4i k4b n1 n2 n3 n4 ls
  have hA2 := HA.out.grows HG2.out
  have hB2 := HB.out.grows HG2.out
  have hC2 := HC.out.grows HG2.out
  have HA2 := Lib.hid hA2
  have HB2 := Lib.hid hB2
  have HC2 := Lib.hid hC2
  have hq := infoAtom
  cases hi : Tryd.prog.info? 69 with
  | none => rw [hi] at hq; cases hq
  | some i0 =>
  rw [hi] at hq
  simp only [Option.map_some, Option.some.injEq, Prod.mk.injEq] at hq
  obtain ⟨hz0, hz1, hz2⟩ := hq
  clear hA2 hB2 hC2
  go_upto_region 4 with fail
  go_cut [6] (fun v6 wx => ∃ X cap, v6 = .slice X (l1 ++ (l2 ++ l3)).length cap ∧ CameAtoms wx X cap (l1 ++ (l2 ++ l3)) ∧ Grows w2 wx)
  case first =>
    have HSA : Hid (∀ w', Grows w2 w' → (w'.cell? ⟨bX, 0, none⟩ = some (.slice A l1.length ca) ∧ w'.cell? ⟨bX, 1, none⟩ = some (.slice B l2.length cb) ∧ w'.cell? ⟨bX, 2, none⟩ = some (.slice C l3.length cc))) := Lib.hid fun w' hg => ⟨cellG HCX2.out.1 hg, cellG HCX2.out.2.1 hg, cellG HCX2.out.2.2 hg⟩
    clear e0 e1 e2
    go_region_held3 (fun w' => w'.cell? ⟨bX, 0, none⟩ = some (.slice A l1.length ca) ∧ w'.cell? ⟨bX, 1, none⟩ = some (.slice B l2.length cb) ∧ w'.cell? ⟨bX, 2, none⟩ = some (.slice C l3.length cc))
      (exact HSA.out _ (by repeat' first | exact hb4 | exact hb3 | exact hb2 | exact Grows.refl _ | refine Grows.alloc ?_ _ | refine Grows.drewN ?_ _ | refine Grows.drew ?_))
      (first
      | (refine step_append_rdS _ rfl (.tmp 38) (.tmp 40) 32 rfl w2.heap.size 69 i0 _ 3 3 Tryd.underlying32 hi hz0 hz1 hz2 rfl (by decide) (.slice (some ⟨w2.heap.size, 0, none⟩) 0 0) 0 [] (by simp [Act.eval, Act.put]) (by first | exact World.ownsRow_made _ #[] 0 (Nat.le_refl _) (by decide) rfl | exact (World.ownsRow_made _ #[] 0 (Nat.le_refl _) (by decide) rfl).drew) A l1.length ca (l1.flatMap Atom3.cells) (by simp [Act.eval, Act.put]) HA2.out.nil (HA2.out.rd.grows (by repeat' first | exact Grows.refl _ | refine Grows.alloc ?_ _ | refine Grows.drewN ?_ _ | refine Grows.drew ?_)) (atoms_one l1) (by unfold maxLen; omega) (by omega) (by simp) ?_; intro v2 w3 hown2 hgrow2; simp only [Nat.zero_add, List.nil_append] at hown2; have hb2 : Grows w2 w3 := own_nextA (W := w2) (by repeat' first | exact Grows.refl _ | refine Grows.alloc ?_ _ | refine Grows.drewN ?_ _ | refine Grows.drew ?_) (by first | exact World.ownsRow_made _ #[] 0 (Nat.le_refl _) (by decide) rfl | exact (World.ownsRow_made _ #[] 0 (Nat.le_refl _) (by decide) rfl).drew) hgrow2; have f1 := cellG HCX2.out.2.1 hb2; have f2 := cellG HCX2.out.2.2 hb2; have hs2 := hb2.below.size; clear hgrow2)
      | (refine step_append_rdS _ rfl (.tmp 41) (.tmp 43) 32 rfl w2.heap.size 69 i0 _ 3 3 Tryd.underlying32 hi hz0 hz1 hz2 rfl (by decide) v2 l1.length (l1.flatMap Atom3.cells) (by simp [Act.eval, Act.put]) hown2 B l2.length cb (l2.flatMap Atom3.cells) (by simp [Act.eval, Act.put]) HB2.out.nil (HB2.out.rd.grows hb2) (atoms_one l2) (by unfold maxLen; omega) (by omega) hs2 ?_; intro v3 w4 hown3 hgrow3; have hb3 := own_nextA hb2 hown2 hgrow3; have g2 := cellG HCX2.out.2.2 hb3; have hs3 := hb3.below.size; clear hgrow3)
      | (refine step_append_rdS _ rfl (.tmp 44) (.tmp 46) 32 rfl w2.heap.size 69 i0 _ 3 3 Tryd.underlying32 hi hz0 hz1 hz2 rfl (by decide) v3 (l1.length + l2.length) (l1.flatMap Atom3.cells ++ l2.flatMap Atom3.cells) (by simp [Act.eval, Act.put]) hown3 C l3.length cc (l3.flatMap Atom3.cells) (by simp [Act.eval, Act.put]) HC2.out.nil (HC2.out.rd.grows hb3) (atoms_one l3) (by unfold maxLen; omega) (by omega) hs3 ?_; intro v4 w5 hown4 hgrow4; have hb4 := own_nextA hb3 hown3 hgrow4; clear hgrow4))
    all_goals (
      obtain ⟨X, cap, rfl, -, -, hrd, hnil, -⟩ := own_rdX hown4
      go_wp2_with fail
      go_meet
      exact ⟨X, cap, by simp [Nat.add_assoc], ⟨by rw [show (l1 ++ (l2 ++ l3)).length = l1.length + l2.length + l3.length by simp only [List.length_append]; omega, List.flatMap_append, List.flatMap_append, ← List.append_assoc]; exact hrd.grows (by repeat' first | exact Grows.refl _ | refine Grows.drewN ?_ _ | refine Grows.drew ?_), by simp; omega, fun x hx => by
        rcases List.mem_append.1 hx with h | h
        · exact HA2.out.each x h
        · rcases List.mem_append.1 h with h | h
          · exact HB2.out.each x h
          · exact HC2.out.each x h, fun e => ⟨by have := (hnil e).1; rw [List.length_append, List.length_append]; omega, (hnil e).2⟩⟩, (by repeat' first | exact hb4 | exact Grows.refl _ | refine Grows.alloc ?_ _ | refine Grows.drewN ?_ _ | refine Grows.drew ?_)⟩)
  case rest =>
    obtain ⟨X, cap, rfl, hX, hgX⟩ := hcut
    have HGX := Lib.hid (HG2.out.trans hgX)
    have hcx0 := cellG HCX2.out.1 hgX
    have hcx1 := cellG HCX2.out.2.1 hgX
    have hcx2 := cellG HCX2.out.2.2 hgX
    have HCX3 := Lib.hid (And.intro hcx0 (And.intro hcx1 hcx2))
    have hcall := patT_any X cap (l1 ++ (l2 ++ l3)) wc hX (by simp; omega)
    rw [rowV3_app, rowV3_app, show (l1 ++ (l2 ++ l3)).length = l1.length + (l2.length + l3.length) by simp] at hcall
    have HPa := Lib.hid (rowV3_plain l1)
    have HPb := Lib.hid (rowV3_plain l2)
    have HPc := Lib.hid (rowV3_plain l3)
    have la9 : (rowV3 l1).length ≤ 6 := by rw [rowV3_len]; omega
    have lb9 : (rowV3 l2).length ≤ 6 := by rw [rowV3_len]; omega
    have lc9 : (rowV3 l3).length ≤ 6 := by rw [rowV3_len]; omega
    have HL := Lib.hid (And.intro la9 (And.intro lb9 lc9))
    have pa9 := patA_len (rowV3 l1)
    have pb9 := patA_len (rowV3 l2)
    have pc9 := patA_len (rowV3 l3)
    have pl9 : (patA (rowV3 l1 ++ (rowV3 l2 ++ rowV3 l3))).length ≤ 36 := by rw [patA_app, patA_app]; simp; omega
    obtain ⟨G1, B1, hGB1⟩ : ∃ G B, atR (patA (rowV3 l1 ++ (rowV3 l2 ++ rowV3 l3))) s 0 = (G, B) := ⟨_, _, rfl⟩
    obtain ⟨G2, B2, hGB2⟩ : ∃ G B, atR (patG (rowV3 l1) (rowV3 l2) (rowV3 l3)) s 0 = (G, B) := ⟨_, _, rfl⟩
    have HGB1 := Lib.hid hGB1
    have HGB2 := Lib.hid hGB2
    have qa9 := partsA_le (rowV3 l1)
    have qb9 := partsA_le (rowV3 l2)
    have qc9 := partsA_le (rowV3 l3)
    have hpp : 2 + partsA (rowV3 l1) + partsA (rowV3 l2) + partsA (rowV3 l3) ≤ 200 := by omega
    have hl2 : G2.length = 20 := by
      have := atR_plain_len (pat_G HPa.out HPb.out HPc.out hpp) rfl (s := s) 0
      rw [show atR (patG (rowV3 l1) (rowV3 l2) (rowV3 l3)) s (0 : Nat) = (G2, B2) from hGB2] at this
      exact this
    have HL2 := Lib.hid hl2
    have HPP := Lib.hid hpp
    clear qa9 qb9 qc9 hpp hl2
    have iX3 : InHeap bX wc := World.block_lt_of_cell? _ _ hcx0
    clear hX hgX e0 e1 e2 iX2 HCX2 hi hz0 hz1 hz2 hGB2 la9 lb9 lc9
    go_wp2_with fail
    (with_reducible refine hcall.mono ?_)
    rintro e9 w3 ⟨rfl, hg3⟩
    have HG3 := Lib.hid (HGX.out.trans hg3)
    have hat := at_any (patA (rowV3 l1 ++ (rowV3 l2 ++ rowV3 l3))) s 0 (by omega) (by omega) w3 (HW.out.grows HG3.out) (HTZ.out.grows HG3.out)
    rw [hGB1] at hat
    clear hcall hGB1
    go_wp2_with fail
    (with_reducible refine hat.mono ?_)
    rintro e9 w4 ⟨⟨rfl, hl1⟩, hg4⟩
    have hgs : (spC G1).size = 20 := by rw [spC_size]; exact hl1
    have hz : (spC spZero).size = 20 := by rw [spC_size]; rfl
    have hov : over (spC spZero) 0 (spC G1) = spC G1 := over_all (by omega)
    have hg5 : Grows w4 (w4.alloc (.cells (spC G1) 23)) := (Grows.refl _).alloc _
    have HG5 := Lib.hid ((HG3.out.trans hg4).trans hg5)
    have hgx5 := (hg3.trans hg4).trans hg5
    have HCX5 := Lib.hid (And.intro (cellG HCX3.out.1 hgx5) (And.intro (cellG HCX3.out.2.1 hgx5) (cellG HCX3.out.2.2 hgx5)))
    have hb5 : blk (w4.alloc (.cells (spC G1) 23)) w4.heap.size = spC G1 := blk_alloc_at _ _ _ _ rfl
    clear hat hg3 hg4 hg5 hgx5 hcx0 hcx1 hcx2 iX3 HCX3
    go_upto_region 6 with fail
    obtain ⟨bM, hbM⟩ : ∃ z, z = w4.heap.size := ⟨_, rfl⟩
    rw [← hbM] at hb5 ⊢
    clear hbM hov
    generalize w4.alloc (.cells (spC G1) 23) = w5 at *
    have HB5 := Lib.hid hb5
    have HGS := Lib.hid hgs
    obtain ⟨pa, hpa⟩ : ∃ z, patA (rowV3 l1) = z := ⟨_, rfl⟩
    obtain ⟨pb, hpb⟩ : ∃ z, patA (rowV3 l2) = z := ⟨_, rfl⟩
    obtain ⟨pc, hpc⟩ : ∃ z, patA (rowV3 l3) = z := ⟨_, rfl⟩
    have hPG : patG (rowV3 l1) (rowV3 l2) (rowV3 l3) = [92, 40] ++ pa ++ [92, 41, 92, 40] ++ pb ++ [92, 41] ++ pc := by unfold patG; rw [hpa, hpb, hpc]; simp
    rw [hpa] at pa9
    rw [hpb] at pb9
    rw [hpc] at pc9
    have v1 : pa.length ≤ 12 := by have := HL.out.1; omega
    have v2 : pb.length ≤ 12 := by have := HL.out.2.1; omega
    have v3 : pc.length ≤ 12 := by have := HL.out.2.2; omega
    obtain ⟨t1, ht1⟩ : ∃ z, [92, 40] ++ pa = z := ⟨_, rfl⟩
    have s1 : (⟨#[92, 40]⟩ : ByteArray) ++ tx pa = tx t1 := by rw [← ht1]; exact tx_append [92, 40] pa
    have u1 : t1.length ≤ 20 := by rw [← ht1]; simp; omega
    rw [ht1] at hPG
    obtain ⟨t2, ht2⟩ : ∃ z, t1 ++ [92, 41, 92, 40] = z := ⟨_, rfl⟩
    have s2 : tx t1 ++ (⟨#[92, 41, 92, 40]⟩ : ByteArray) = tx t2 := by rw [← ht2]; exact tx_append t1 [92, 41, 92, 40]
    have u2 : t2.length ≤ 24 := by rw [← ht2]; simp; omega
    rw [ht2] at hPG
    obtain ⟨t3, ht3⟩ : ∃ z, t2 ++ pb = z := ⟨_, rfl⟩
    have s3 : tx t2 ++ tx pb = tx t3 := by rw [← ht3]; exact tx_append t2 pb
    have u3 : t3.length ≤ 40 := by rw [← ht3]; simp; omega
    rw [ht3] at hPG
    obtain ⟨t4, ht4⟩ : ∃ z, t3 ++ [92, 41] = z := ⟨_, rfl⟩
    have s4 : tx t3 ++ (⟨#[92, 41]⟩ : ByteArray) = tx t4 := by rw [← ht4]; exact tx_append t3 [92, 41]
    have u4 : t4.length ≤ 42 := by rw [← ht4]; simp; omega
    rw [ht4] at hPG
    obtain ⟨t5, ht5⟩ : ∃ z, t4 ++ pc = z := ⟨_, rfl⟩
    have s5 : tx t4 ++ tx pc = tx t5 := by rw [← ht5]; exact tx_append t4 pc
    have u5 : t5.length ≤ 60 := by rw [← ht5]; simp; omega
    rw [ht5] at hPG
    have hG5 : atR t5 s 0 = (G2, B2) := by rw [← hPG]; exact HGB2.out
    have HG5t := Lib.hid hG5
    have HPA := Lib.hid hpa
    have HPB := Lib.hid hpb
    have HPC := Lib.hid hpc
    have HA5 := Lib.hid (HA.out.grows HG5.out)
    have HB5a := Lib.hid (HB.out.grows HG5.out)
    have HC5 := Lib.hid (HC.out.grows HG5.out)
    have HSA : Hid (∀ w', Grows w5 w' → (w'.cell? ⟨bX, 0, none⟩ = some (.slice A l1.length ca) ∧ w'.cell? ⟨bX, 1, none⟩ = some (.slice B l2.length cb) ∧ w'.cell? ⟨bX, 2, none⟩ = some (.slice C l3.length cc))) := Lib.hid fun w' hg => ⟨cellG HCX5.out.1 hg, cellG HCX5.out.2.1 hg, cellG HCX5.out.2.2 hg⟩
    have iX : InHeap bX w5 := World.block_lt_of_cell? _ _ HCX5.out.1
    clear hPG ht1 ht2 ht3 ht4 ht5 hG5 hpa hpb hpc hb5 hgs hl1 pa9 pb9 pc9 pl9
    go_cut [9, 10] (fun v9 v10 wx => ∃ bN, v9 = .pointer (some ⟨bN, 0, none⟩) ∧ v10 = .bool B2 ∧ (∀ j, j < 20 → wx.cell? ⟨bN, j, none⟩ = some (.int .i64 (G2.getD j 0))) ∧ Grows w5 wx)
    case first =>
      have hgs2 : (spC G2).size = 20 := by rw [spC_size]; exact HL2.out
      have hov2 : over (spC spZero) 0 (spC G2) = spC G2 := over_all (by omega)
      have q1 : ∀ W, Grows w5 W → Calls Tryd.prog 14 #[.slice A l1.length ca] W fun e w' => e = .returned (.string (tx pa)) ∧ Grows w5 w' ∧ Grows W w' := fun W h => by rw [← HPA.out]; exact (patT_any A ca l1 W (HA5.out.grows h) (by omega)).mono fun e w' h2 => ⟨h2.1, h.trans h2.2, h2.2⟩
      have q2 : ∀ W, Grows w5 W → Calls Tryd.prog 14 #[.slice B l2.length cb] W fun e w' => e = .returned (.string (tx pb)) ∧ Grows w5 w' ∧ Grows W w' := fun W h => by rw [← HPB.out]; exact (patT_any B cb l2 W (HB5a.out.grows h) (by omega)).mono fun e w' h2 => ⟨h2.1, h.trans h2.2, h2.2⟩
      have q3 : ∀ W, Grows w5 W → Calls Tryd.prog 14 #[.slice C l3.length cc] W fun e w' => e = .returned (.string (tx pc)) ∧ Grows w5 w' ∧ Grows W w' := fun W h => by rw [← HPC.out]; exact (patT_any C cc l3 W (HC5.out.grows h) (by omega)).mono fun e w' h2 => ⟨h2.1, h.trans h2.2, h2.2⟩
      have q4 : ∀ W, Grows w5 W → Calls Tryd.prog 13 #[.string (tx t5), .string (tx s), .int .i64 0] W fun e w' => (e = .returned (.tuple #[spV G2, .bool B2]) ∧ G2.length = 20) ∧ Grows w5 w' ∧ Grows W w' := fun W h => (at_drew (Grows.refl W) t5 s 0 G2 B2 HG5t.out (by omega) (by omega) (HW.out.grows (HG5.out.trans h)) (HTZ.out.grows (HG5.out.trans h))).mono fun e w' h2 => ⟨h2.1, h.trans h2.2, h2.2⟩
      have hlx1 : ¬ 9223372036854775807 < 2 + pa.length := by omega
      have hlx2 : ¬ 9223372036854775807 < t1.length + 4 := by omega
      have hlx3 : ¬ 9223372036854775807 < t2.length + pb.length := by omega
      have hlx4 : ¬ 9223372036854775807 < t3.length + 2 := by omega
      have hlx5 : ¬ 9223372036854775807 < t4.length + pc.length := by omega
      have hone : ∀ (v : Value), v ∈ List.map (fun v => Value.int .i64 v) G2 → v.oneCell' = true := fun v hv => by
        obtain ⟨x, _, rfl⟩ := List.mem_map.1 hv
        rfl
      have hlen2 : (List.map (fun v => Value.int .i64 v) G2).length = 20 := by rw [List.length_map]; exact HL2.out
      have hinf : Option.map (fun x => x.size) (Tryd.prog.info? 23) = some (List.map (fun v => Value.int .i64 v) G2).length := by rw [hlen2]; kernel_rfl
      have hth0 : ∀ W : World, (W.alloc (.cells (spC spZero) 23)).there W.heap.size 0 (List.map (fun v => Value.int .i64 v) G2).length := fun W => there_new W _ _ _ (by rw [hlen2, spC_size]; rfl) (by rw [spC_size]; decide)
      have HTH0 := Lib.hid hth0
      clear hlen2
      have Q1 := Lib.hid q1
      have Q2 := Lib.hid q2
      have Q3 := Lib.hid q3
      have Q4 := Lib.hid q4
      clear q1 q2 q3 q4
      go_region_held3 (fun w' => w'.cell? ⟨bX, 0, none⟩ = some (.slice A l1.length ca) ∧ w'.cell? ⟨bX, 1, none⟩ = some (.slice B l2.length cb) ∧ w'.cell? ⟨bX, 2, none⟩ = some (.slice C l3.length cc))
        (exact HSA.out _ (by repeat' first | exact GD.out | exact GC.out | exact GB.out | exact GA.out | exact Grows.refl _ | exact Nat.le_refl _ | exact GD.out.below.size | exact GC.out.below.size | exact GB.out.below.size | exact GA.out.below.size | refine grows_set ?_ ?_ | refine Grows.alloc ?_ _ | refine Grows.drewN ?_ _ | refine Grows.drew ?_))
        (first
          | (go_at_call 14; (with_reducible refine Calls.mono (Q1.out _ ?_) ?_); (repeat' first | exact Grows.refl _ | refine Grows.alloc ?_ _ | refine Grows.drewN ?_ _ | refine Grows.drew ?_); rintro e9 wA ⟨rfl, hGA, hWA⟩; have GA := Lib.hid hGA; (first | (have th := there_grows (HTH0.out _) hWA) | (have th := there_grows th hWA) | skip); clear hGA hWA)
          | (go_at_call 14; (with_reducible refine Calls.mono (Q2.out _ ?_) ?_); (repeat' first | exact GA.out | refine Grows.alloc ?_ _ | refine Grows.drewN ?_ _ | refine Grows.drew ?_); rintro e9 wB ⟨rfl, hGB, hWB⟩; have GB := Lib.hid hGB; (first | (have th := there_grows (HTH0.out _) hWB) | (have th := there_grows th hWB) | skip); clear hGB hWB)
          | (go_at_call 14; (with_reducible refine Calls.mono (Q3.out _ ?_) ?_); (repeat' first | exact GB.out | refine Grows.alloc ?_ _ | refine Grows.drewN ?_ _ | refine Grows.drew ?_); rintro e9 wC ⟨rfl, hGC, hWC⟩; have GC := Lib.hid hGC; (first | (have th := there_grows (HTH0.out _) hWC) | (have th := there_grows th hWC) | skip); clear hGC hWC)
          | (go_at_call 13; (with_reducible refine Calls.mono (Q4.out _ ?_) ?_); (repeat' first | exact GC.out | refine Grows.alloc ?_ _ | refine Grows.drewN ?_ _ | refine Grows.drew ?_); rintro e9 wD ⟨⟨rfl, -⟩, hGD, hWD⟩; have GD := Lib.hid hGD; (first | (have th := there_grows (HTH0.out _) hWD) | (have th := there_grows th hWD) | skip); clear hGD hWD))
      all_goals (
        go_wp2_with fail
        go_meet
        refine ⟨_, rfl, rfl, set_post HL2.out ?_ ?_ ?_⟩
        · first | exact th | exact HTH0.out _
        · (repeat' first | exact GD.out | exact Grows.refl _ | refine Grows.alloc ?_ _ | refine Grows.drewN ?_ _ | refine Grows.drew ?_)
        · first | exact Nat.le_refl _ | exact GD.out.below.size | exact GC.out.below.size | exact GB.out.below.size | exact GA.out.below.size)
    case rest =>
      obtain ⟨bN, rfl, rfl, hbN, hgc⟩ := hcut
      have HGC := Lib.hid hgc
      have hbM6 := blkG HB5.out (by have := HGS.out; omega) hgc
      have hgs2 : (spC G2).size = 20 := by rw [spC_size]; exact HL2.out
      have HMN := Lib.hid (And.intro hbM6 hbN)
      have HX := HSA.out wc hgc
      have HXH := Lib.hid HX
      have hdo : ∀ W, Grows wc W → Calls Tryd.prog 11 #[] W fun e w' => e = .returned (.bool true) ∧ Grows W w' := fun W h => does_any W (HW.out.grows ((HG5.out.trans HGC.out).trans h)) (HTZ.out.grows ((HG5.out.trans HGC.out).trans h))
      have HDO := Lib.hid hdo
      clear hgc hbN hbM6 hdo HX s1 s2 s3 s4 s5 u1 u2 u3 u4 u5 v1 v2 v3 HPA HPB HPC HG5t HSA iX
      by_cases hex : ∃ k e, k ≤ s.length ∧ e ≤ s.length ∧ FitP s (rowV3 l1 ++ (rowV3 l2 ++ rowV3 l3)) k e
      · obtain ⟨i, j, hij, hjs, hf, hmin, hmax⟩ := found_of hex
        have hpl : PlainA (rowV3 l1 ++ (rowV3 l2 ++ rowV3 l3)) := fun x hx => by
          rcases List.mem_append.1 hx with h | h
          · exact HPa.out x h
          · rcases List.mem_append.1 h with h | h
            · exact HPb.out x h
            · exact HPc.out x h
        have hpl9 := partsA_le (rowV3 l1 ++ (rowV3 l2 ++ rowV3 l3))
        have hlen9 := HL.out
        simp only [List.length_append] at hpl9
        obtain ⟨g1, a1, a2, a3⟩ := rowA_some hpl (by omega) (s := s) (k := 0) (Nat.zero_le _) hij hjs (fun b _ hb e _ he => hmin b hb e he) hf (fun e h1 h2 => hmax e h2 h1)
        rw [show atR (patA (rowV3 l1 ++ (rowV3 l2 ++ rowV3 l3))) s (0 : Nat) = (G1, B1) from HGB1.out] at a1
        injection a1 with a1 a4
        subst a1
        subst a4
        obtain ⟨g2, b1, b2, b3⟩ := grp_first HPa.out HPb.out HPc.out HPP.out (by omega) hjs hmin hmax hf
        rw [HGB2.out] at b1
        injection b1 with b1 b4
        subst b1
        subst b4
        have HFND := Lib.hid (And.intro hf (And.intro hmin hmax))
        have HIJ := Lib.hid (And.intro hij hjs)
        have M0 := (Blk.cell HMN.out.1 (by have := HGS.out; omega) 0).trans (spC_get (by have := HGS.out; rw [spC_size] at this; omega))
        have M1 := (Blk.cell HMN.out.1 (by have := HGS.out; omega) 1).trans (spC_get (by have := HGS.out; rw [spC_size] at this; omega))
        have N0 := HMN.out.2 0 (by omega)
        have N1 := HMN.out.2 1 (by omega)
        have iN : InHeap bN wc := World.block_lt_of_cell? _ _ N0
        rw [a2] at M0
        rw [a3] at M1
        rw [b2] at N0
        rw [b3] at N1
        have iM := Blk.inHeap HMN.out.1 (by have := HGS.out; omega)
        clear hex hpl hpl9 hlen9 a2 a3 b2 b3 hf hmin hmax hgs2
        go_upto_region 9 with fail
        go_quiet (fail)
        go_wp2_with fail
        clear M0 M1 N0 N1 iM iN
        go_loopg [13, 14] (j + 1 - i) (fun q v13 _ wr => ∃ x : Nat, i ≤ x ∧ x ≤ j + 1 ∧ q + i = x ∧ v13 = .int .i64 ((x : Int) - 1) ∧ Grows wc wr ∧ ∀ u v, x ≤ u → u ≤ j → v ≤ j → FitP s (rowV3 l1) i u → FitP s (rowV3 l2) u v → ¬ FitP s (rowV3 l3) v j)
        case atStart => exact ⟨j + 1, by omega, Nat.le_refl _, by omega, by go_num, (by repeat' first | exact Grows.refl _ | refine Grows.drewN ?_ _ | refine Grows.drew ?_), fun u v h1 h2 => by omega⟩
        case round =>
          obtain ⟨x, hx1, hx2, hq, rfl, hg, hno⟩ := hrel
          obtain ⟨wi, hwi⟩ : ∃ z, z = wr := ⟨_, rfl⟩
          subst hwi
          obtain ⟨gi, hgi⟩ : ∃ z, z = gk := ⟨_, rfl⟩
          subst hgi
          have HQ := Lib.hid hq
          have HNO := Lib.hid hno
          have HGi := Lib.hid hg
          clear hq hno hg
          by_cases hxi : i < x
          · obtain ⟨x0, rfl⟩ : ∃ x0, x = x0 + 1 := ⟨x - 1, by omega⟩
            have hxx : (((x0 + 1 : Nat) : Int) - 1) = (x0 : Int) := by omega
            rw [hxx]
            have x1 : (i : Int) ≤ (x0 : Int) := by omega
            have x8 : i ≤ x0 := by omega
            have x9 : x0 ≤ j := by omega
            have x7 : x0 ≤ s.length := by omega
            clear hxx hxi
            go_wp2_with fail
            go_loopg [14] (j + 1 - x0) (fun q v14 wr => ∃ y : Nat, x0 ≤ y ∧ y ≤ j + 1 ∧ q + x0 = y ∧ v14 = .int .i64 ((y : Int) - 1) ∧ Grows wi wr ∧ ∀ v, y ≤ v → v ≤ j → FitP s (rowV3 l1) i x0 → FitP s (rowV3 l2) x0 v → ¬ FitP s (rowV3 l3) v j)
            case atStart => exact ⟨j + 1, by omega, Nat.le_refl _, by omega, by go_num, Grows.refl _, fun v h1 h2 => by omega⟩
            case round =>
              obtain ⟨y, hy1, hy2, hq, rfl, hg, hnb⟩ := hrel
              have HQY := Lib.hid hq
              have HNB := Lib.hid hnb
              have HGw := Lib.hid hg
              have HGj := Lib.hid (HGi.out.trans hg)
              clear hq hnb hg
              by_cases hyx : x0 < y
              · obtain ⟨y0, rfl⟩ : ∃ y0, y = y0 + 1 := ⟨y - 1, by omega⟩
                have hyy : (((y0 + 1 : Nat) : Int) - 1) = (y0 : Int) := by omega
                rw [hyy]
                have y1 : (x0 : Int) ≤ (y0 : Int) := by omega
                have y8 : x0 ≤ y0 := by omega
                have y9 : y0 ≤ j := by omega
                have y7 : y0 ≤ s.length := by omega
                have e1 : (tx s).extract i x0 = tx ((s.drop i).take (x0 - i)) := tx_mid _ _ _
                have e2 : (tx s).extract x0 y0 = tx ((s.drop x0).take (y0 - x0)) := tx_mid _ _ _
                have e3 : (tx s).extract y0 j = tx ((s.drop y0).take (j - y0)) := tx_mid _ _ _
                have f1 := fit_at (l := rowV3 l1) (s := s) x8 x7
                have f2 := fit_at (l := rowV3 l2) (s := s) y8 y7
                have f3 := fit_at (l := rowV3 l3) (s := s) y9 hjs
                obtain ⟨wj, hwj⟩ : ∃ z, z = wr := ⟨_, rfl⟩
                subst hwj
                have hGJ := (HG5.out.trans HGC.out).trans HGj.out
                have q1 : ∀ m : More, Calls Tryd.prog 15 #[.slice A l1.length ca, .string (tx ((s.drop i).take (x0 - i)))] (more wj m) fun e w' => e = .returned (.bool (fitV (rowV3 l1) ((s.drop i).take (x0 - i)))) ∧ Grows (more wj m) w' := fun m => fit_any A ca l1 _ _ (HA.out.grows (hGJ.trans ⟨m, rfl⟩)) (by omega) (by rw [List.length_take, List.length_drop]; omega)
                have q2 : ∀ m : More, Calls Tryd.prog 15 #[.slice B l2.length cb, .string (tx ((s.drop x0).take (y0 - x0)))] (more wj m) fun e w' => e = .returned (.bool (fitV (rowV3 l2) ((s.drop x0).take (y0 - x0)))) ∧ Grows (more wj m) w' := fun m => fit_any B cb l2 _ _ (HB.out.grows (hGJ.trans ⟨m, rfl⟩)) (by omega) (by rw [List.length_take, List.length_drop]; omega)
                have q3 : ∀ m : More, Calls Tryd.prog 15 #[.slice C l3.length cc, .string (tx ((s.drop y0).take (j - y0)))] (more wj m) fun e w' => e = .returned (.bool (fitV (rowV3 l3) ((s.drop y0).take (j - y0)))) ∧ Grows (more wj m) w' := fun m => fit_any C cc l3 _ _ (HC.out.grows (hGJ.trans ⟨m, rfl⟩)) (by omega) (by rw [List.length_take, List.length_drop]; omega)
                obtain ⟨F1, hF1⟩ : ∃ F, fitV (rowV3 l1) ((s.drop i).take (x0 - i)) = F := ⟨_, rfl⟩
                obtain ⟨F2, hF2⟩ : ∃ F, fitV (rowV3 l2) ((s.drop x0).take (y0 - x0)) = F := ⟨_, rfl⟩
                obtain ⟨F3, hF3⟩ : ∃ F, fitV (rowV3 l3) ((s.drop y0).take (j - y0)) = F := ⟨_, rfl⟩
                rw [hF1] at q1 f1
                rw [hF2] at q2 f2
                rw [hF3] at q3 f3
                have HF := Lib.hid (And.intro f1 (And.intro f2 f3))
                have X0 := cellG HXH.out.1 HGj.out
                have X1 := cellG HXH.out.2.1 HGj.out
                have X2 := cellG HXH.out.2.2 HGj.out
                have iX : InHeap bX wj := World.block_lt_of_cell? _ _ X0
                clear hyy hyx f1 f2 f3 hF1 hF2 hF3 hGJ
                go_upto_region 18 with fail
                go_cut [134] (fun v134 wx => v134 = .bool (F1 && (F2 && F3)) ∧ Grows wj wx)
                case first =>
                  cases F1 with
                  | false =>
                    refine region_grows (by kernel_rfl) (by kernel_rfl) ?_
                    repeat (go_big_quiet_step (first | (go_at_call 15; with_reducible exact calls_grows (q1 _))))
                    refine wpQuiet_nil ?_
                    intro _ hw'
                    obtain ⟨m3, rfl⟩ := hw'
                    go_wp2_with fail
                    go_meet
                    exact ⟨rfl, ⟨m3, rfl⟩⟩
                  | true =>
                    cases F2 with
                    | false =>
                      refine region_grows (by kernel_rfl) (by kernel_rfl) ?_
                      repeat (go_big_quiet_step (first | (go_at_call 15; with_reducible exact calls_grows (q1 _)) | (go_at_call 15; with_reducible exact calls_grows (q2 _))))
                      refine wpQuiet_nil ?_
                      intro _ hw'
                      obtain ⟨m3, rfl⟩ := hw'
                      go_wp2_with fail
                      go_meet
                      exact ⟨rfl, ⟨m3, rfl⟩⟩
                    | true =>
                      refine region_grows (by kernel_rfl) (by kernel_rfl) ?_
                      repeat (go_big_quiet_step (first | (go_at_call 15; with_reducible exact calls_grows (q1 _)) | (go_at_call 15; with_reducible exact calls_grows (q2 _)) | (go_at_call 15; with_reducible exact calls_grows (q3 _))))
                      refine wpQuiet_nil ?_
                      intro _ hw'
                      obtain ⟨m3, rfl⟩ := hw'
                      go_wp2_with fail
                      go_meet
                      exact ⟨rfl, ⟨m3, rfl⟩⟩
                case rest =>
                  obtain ⟨wd, hwd⟩ : ∃ z, z = wc := ⟨_, rfl⟩
                  subst hwd
                  obtain ⟨rfl, hgd⟩ := hcut
                  clear q1 q2 q3 X0 X1 X2 iX e1 e2 e3
                  cases hF : (F1 && (F2 && F3)) with
                  | true =>
                    simp only [Bool.and_eq_true] at hF
                    obtain ⟨rfl, rfl, rfl⟩ := hF
                    have HGd := Lib.hid (HGj.out.trans hgd)
                    obtain ⟨g9, r1, -, -, r4, r5, r6, r7⟩ := grp_some HPa.out HPb.out HPc.out HPP.out hjs HFND.out.2.1 HFND.out.2.2 (HF.out.1.1 rfl) (HF.out.2.1.1 rfl) (HF.out.2.2.1 rfl)
                      (fun u v h1 h2 h3 h4 h5 => HNO.out u v h1 h2 h3 h4 h5) (fun v h1 h2 h3 => HNB.out v h1 h2 (HF.out.1.1 rfl) h3)
                    rw [HGB2.out] at r1
                    injection r1 with r1 _
                    subst r1
                    have N2 := cellG (HMN.out.2 2 (by omega)) HGd.out
                    have N3 := cellG (HMN.out.2 3 (by omega)) HGd.out
                    have N4 := cellG (HMN.out.2 4 (by omega)) HGd.out
                    have N5 := cellG (HMN.out.2 5 (by omega)) HGd.out
                    have iN : InHeap bN wd := World.block_lt_of_cell? _ _ N2
                    rw [r4] at N2
                    rw [r5] at N3
                    rw [r6] at N4
                    rw [r7] at N5
                    clear r4 r5 r6 r7 hgd
                    go_wp2_with fail
                    (with_reducible refine (HDO.out _ HGd.out).mono ?_)
                    rintro e9 w9 ⟨rfl, hg9⟩
                    go_wp2_with fail
                    go_ret
                    exact ⟨rfl, ((HG5.out.trans HGC.out).trans HGd.out).trans hg9⟩
                  | false =>
                    have HFF := Lib.hid hF
                    have HGd := Lib.hid (HGw.out.trans hgd)
                    clear hF hgd
                    go_wp2_with fail
                    go_roundg (gk - 1)
                    case measure => have := HQY.out; omega
                    case rel => exact ⟨y0, y8, by omega, by have := HQY.out; omega, by go_num, HGd.out, fun v h1 h2 h3 h4 h5 => by
                      rcases Nat.lt_or_ge y0 v with h | h
                      · exact HNB.out v h h2 h3 h4 h5
                      · obtain rfl : v = y0 := by omega
                        have := HFF.out
                        rw [HF.out.1.2 h3, HF.out.2.1.2 h4, HF.out.2.2.2 h5] at this
                        cases this⟩
              · obtain rfl : y = x0 := by omega
                have y1 : ¬ (y : Int) ≤ (y : Int) - 1 := by omega
                go_wp2_with fail
                go_roundg (gi - 1)
                case measure => have := HQ.out; omega
                case rel => exact ⟨y, by omega, by omega, by have := HQ.out; omega, by go_num, HGj.out, fun u v h1 h2 h3 h4 h5 h6 => by
                  rcases Nat.lt_or_ge y u with h | h
                  · exact HNO.out u v h h2 h3 h4 h5 h6
                  · obtain rfl : u = y := by omega
                    exact HNB.out v h5.le.1 h3 h4 h5 h6⟩
          · exfalso
            obtain ⟨u, h1, h2⟩ := FitP.append.1 HFND.out.1
            obtain ⟨v, h3, h4⟩ := FitP.append.1 h2
            have a1 := h1.le.1
            have a2 := h3.le.1
            have a3 := h4.le.1
            exact HNO.out u v (by omega) (by omega) a3 h1 h3 h4
      · have hpl : PlainA (rowV3 l1 ++ (rowV3 l2 ++ rowV3 l3)) := fun x hx => by
          rcases List.mem_append.1 hx with h | h
          · exact HPa.out x h
          · rcases List.mem_append.1 h with h | h
            · exact HPb.out x h
            · exact HPc.out x h
        have hpl9 := partsA_le (rowV3 l1 ++ (rowV3 l2 ++ rowV3 l3))
        have hlen9 := HL.out
        simp only [List.length_append] at hpl9
        have a1 := rowA_none hpl (by omega) (s := s) (k := 0) (fun b _ e h1 h2 hf => hex ⟨b, e, by omega, h2, hf⟩)
        rw [show atR (patA (rowV3 l1 ++ (rowV3 l2 ++ rowV3 l3))) s (0 : Nat) = (G1, B1) from HGB1.out] at a1
        have b1 := grp_none HPa.out HPb.out HPc.out HPP.out (s := s) (fun k e he hf => hex ⟨k, e, by have := hf.le; omega, he, hf⟩)
        rw [HGB2.out] at b1
        injection a1 with _ a1
        injection b1 with _ b1
        subst a1
        subst b1
        clear hex hpl hpl9 hlen9 hgs2
        go_wp2_with fail
        (with_reducible refine (HDO.out _ (Grows.refl _)).mono ?_)
        rintro e9 w9 ⟨rfl, hg9⟩
        go_wp2_with fail
        go_ret
        exact ⟨rfl, (HG5.out.trans HGC.out).trans hg9⟩
end Go.Proofs.YtnjagecmhdagkaaDoor
