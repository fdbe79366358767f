/-
  Several texts of the proof: SubO, SubNoneL.
-/
import Derived.Test.YtkomggeionofbaaGreatDoorPk48
set_option linter.unusedSimpArgs false
set_option linter.unusedVariables false
/-
  Substitution: the chapter's lines (one, lives), walked.
-/
namespace Go.Proofs.YtkomggeionofbaaGreatDoor
open Go.RowKit

/-- Is all as the walk of one wants it, and the answer this? -/
def oneOk (p t s : List UInt8) (nth : Int) (all : Bool) (r : List UInt8) (n : Nat) : Bool :=
  match patV p, tokF t with
  | some y, some l => !y.2.refs && l.all (fun t => match t with | .grp n => decide (n ≤ 9) | .text x => decide (x.length ≤ 1000)) && decide (l.length ≤ 100) && decide ((lineV s y.1 l nth all).2.2 = 0) && decide ((lineV s y.1 l nth all).2.1 = n) && decide (Lib.join (lineV s y.1 l nth all).1 [124] = r) && decide ((lineV s y.1 l nth all).1.length ≤ 1000)
  | _, _ => false
set_option maxRecDepth 3000 in
theorem ok_1 : oneOk [120, 42] [45] [97, 98, 99] 1 true [45, 97, 45, 98, 45, 99, 45] 4 = true := by kernel_rfl
set_option maxRecDepth 3000 in
theorem ok_2 : oneOk [120, 42] [45] [97, 98, 99] 2 false [97, 45, 98, 99] 1 = true := by kernel_rfl
set_option maxRecDepth 3000 in
theorem ok_3 : oneOk [98, 42] [45] [97, 98, 99] 1 true [45, 97, 45, 99, 45] 3 = true := by kernel_rfl
set_option maxRecDepth 3000 in
theorem ok_4 : oneOk [97] [92, 10] [98, 97, 98] 1 true [98, 124, 98] 1 = true := by kernel_rfl
set_option maxRecDepth 3000 in
theorem ok_5 : oneOk [92, 40, 46, 92, 41, 92, 40, 46, 92, 41] [92, 50, 92, 49] [97, 98, 99, 100] 1 true [98, 97, 100, 99] 2 = true := by kernel_rfl
set_option maxRecDepth 3000 in
theorem ok_6 : oneOk [113] [45] [97, 98, 99] 1 true [97, 98, 99] 0 = true := by kernel_rfl
set_option maxRecDepth 3000 in
theorem ok_parts {p t s : List UInt8} {nth : Int} {all : Bool} {r : List UInt8} {n : Nat} (h : oneOk p t s nth all r n = true) :
    ∃ y l SL, patV p = some y ∧ y.2.refs = false ∧ tokF t = some l ∧ Small l ∧ l.length ≤ 100 ∧ Fits l 1000 ∧ lineV s y.1 l nth all = (SL, n, 0) ∧ Lib.join SL [124] = r ∧ SL.length ≤ 1000 := by
  unfold oneOk at h
  cases hp : patV p with
  | none => rw [hp] at h; cases h
  | some y =>
    cases ht : tokF t with
    | none => rw [hp, ht] at h; cases h
    | some l =>
      rw [hp, ht] at h
      simp only [Bool.and_eq_true, decide_eq_true_eq, List.all_eq_true] at h
      obtain ⟨⟨⟨⟨⟨⟨h1, h2⟩, h3⟩, h4⟩, h5⟩, h6⟩, h7⟩ := h
      refine ⟨y, l, (lineV s y.1 l nth all).1, rfl, by simpa using h1, rfl, fun n hn => by simpa using h2 _ hn, h3, fun t ht => ?_, Prod.ext rfl (Prod.ext h5 h4), h6, h7⟩
      have := h2 t ht
      cases t with
      | text x => simpa [longT] using this
      | grp n => simp [longT]
set_option maxRecDepth 100000 in
set_option maxHeartbeats 4000000 in
theorem one_lit (p t s : Array UInt8) (nth : Int) (all : Bool) (r : List UInt8) (n : Nat) (hok : oneOk p.toList t.toList s.toList nth all r n = true) (hp : p.toList.length ≤ 1000) (ht : t.toList.length ≤ 1000) (hs : s.toList.length ≤ 1000) (hr : r.length ≤ 1000) (hn1 : 1 ≤ nth) (hn2 : nth ≤ 1000000) (w : World) (hw : Sane w) (htz : TzAt w) :
    Calls Tryz.prog 9 #[.string ⟨p⟩, .string ⟨t⟩, .string ⟨s⟩, .int .i64 nth, .bool all] w fun e w' => e = .returned (.tuple #[.string (tx r), .int .i64 n]) ∧ Grows w w' := by
  obtain ⟨y, l, SL, h1, h2, h3, h4, h5, h6, h7, h8, h9⟩ := ok_parts hok
  have c1 := bre_parse p.toList w (by omega) hw
  rw [h1] at c1
  change Calls _ _ #[.string ⟨p⟩] _ _ at c1
  obtain ⟨n1, n2, n3⟩ := patV_nd h1
  have HN := Lib.hid (And.intro n1 n3)
  have HY := Lib.hid (And.intro h2 (And.intro h4 (And.intro h5 h6)))
  have HV := Lib.hid h7
  have HT := Lib.hid h3
  have HW := Lib.hid hw
  have HTZ := Lib.hid htz
  clear hok h1 h2 h3 h4 h5 h6 h7 n1 n2 n3 hw htz
  go_enter Tryz.func9, Tryz.ntmps9
  go_wp2_with fail
  (with_reducible refine c1.mono ?_)
  rintro e9 w1 ⟨g, rfl, hre, -, hg1⟩
  have c2 := tplParse_any t.toList w1 (by omega)
  unfold TplPost at c2
  rw [HT.out] at c2
  change Calls _ _ #[.string ⟨t⟩] _ _ at c2
  have HRE := Lib.hid hre
  have HG1 := Lib.hid hg1
  clear c1 hre hg1
  go_wp2_with fail
  (with_reducible refine c2.mono ?_)
  rintro e9 w2 ⟨g2, rfl, htp, -, hg2⟩
  have HG2 := Lib.hid (HG1.out.trans hg2)
  have c3 := line_any s.toList hs y.1 y.2 HN.out.1 (by have := HN.out.2; omega) HY.out.1 l g2 HY.out.2.1 HY.out.2.2.1 HY.out.2.2.2 nth hn1 hn2 all _ g w2 (HRE.out.grows hg2) htp (HTZ.out.grows HG2.out) (HW.out.grows HG2.out)
  rw [HV.out] at c3
  change Calls _ _ #[_, _, .string ⟨s⟩, _, _] _ _ at c3
  clear c2 htp hg2
  go_wp2_with fail
  (with_reducible refine c3.mono ?_)
  rintro e9 w3 (⟨-, A, rfl, hrd, hpos, hg3⟩ | ⟨h, -⟩)
  · have HG3 := Lib.hid (HG2.out.trans hg3)
    dsimp only at hrd hpos
    obtain ⟨b, o, rfl, hb, hc⟩ := hrd.2 hpos
    have c4 := Tryz.strings_Join b o SL.length (SL.map tx) ⟨#[124]⟩ w3 (fun j x hj => hc j (.string x) (by
      unfold lv
      rw [List.getElem?_map] at hj ⊢
      cases h : SL[j]? with
      | none => rw [h] at hj; cases hj
      | some z => rw [h] at hj; cases hj; simp [h])) hb (by
        rw [List.length_map]
        omega) (by simp) (by
        rw [List.map_map, show ((fun x : ByteArray => x.data.toList) ∘ tx) = id by funext z; simp, List.map_id]
        rw [show (⟨#[124]⟩ : ByteArray).data.toList = [124] from rfl, h8]
        omega)
    rw [List.map_map, show ((fun x : ByteArray => x.data.toList) ∘ tx) = id by funext z; simp, List.map_id, show (⟨#[124]⟩ : ByteArray).data.toList = [124] from rfl, h8, List.length_map] at c4
    clear c3 hc hrd
    go_wp2_with fail
    (with_reducible refine c4.mono ?_)
    rintro e9 w4 ⟨rfl, hg4⟩
    go_wp2_with fail
    exact bodyPost_ret (v := .tuple #[.string (tx r), .int .i64 n]) (by simp [results, Tryz.results9, go_sem]; try rfl) rfl ⟨rfl, HG3.out.trans (Grows.of_below hg4)⟩
  · exact absurd rfl h
set_option maxRecDepth 100000 in
set_option maxHeartbeats 4000000 in
theorem lives_any (w : World) (hw : Sane w) (htz : TzAt w) : Calls Tryz.prog 4 #[] w fun e w' => e = .returned (.bool true) ∧ Grows w w' := by
  have c1 : ∀ W, Grows w W → Calls Tryz.prog 9 #[.string ⟨#[120, 42]⟩, .string ⟨#[45]⟩, .string ⟨#[97, 98, 99]⟩, .int .i64 1, .bool true] W fun e w' => e = .returned (.tuple #[.string ⟨#[45, 97, 45, 98, 45, 99, 45]⟩, .int .i64 4]) ∧ Grows W w' := fun W h => one_lit #[120, 42] #[45] #[97, 98, 99] 1 true [45, 97, 45, 98, 45, 99, 45] 4 ok_1 (by decide) (by decide) (by decide) (by decide) (by omega) (by omega) W (hw.grows h) (htz.grows h)
  have C1 := Lib.hid c1
  have c2 : ∀ W, Grows w W → Calls Tryz.prog 9 #[.string ⟨#[120, 42]⟩, .string ⟨#[45]⟩, .string ⟨#[97, 98, 99]⟩, .int .i64 2, .bool false] W fun e w' => e = .returned (.tuple #[.string ⟨#[97, 45, 98, 99]⟩, .int .i64 1]) ∧ Grows W w' := fun W h => one_lit #[120, 42] #[45] #[97, 98, 99] 2 false [97, 45, 98, 99] 1 ok_2 (by decide) (by decide) (by decide) (by decide) (by omega) (by omega) W (hw.grows h) (htz.grows h)
  have C2 := Lib.hid c2
  have c3 : ∀ W, Grows w W → Calls Tryz.prog 9 #[.string ⟨#[98, 42]⟩, .string ⟨#[45]⟩, .string ⟨#[97, 98, 99]⟩, .int .i64 1, .bool true] W fun e w' => e = .returned (.tuple #[.string ⟨#[45, 97, 45, 99, 45]⟩, .int .i64 3]) ∧ Grows W w' := fun W h => one_lit #[98, 42] #[45] #[97, 98, 99] 1 true [45, 97, 45, 99, 45] 3 ok_3 (by decide) (by decide) (by decide) (by decide) (by omega) (by omega) W (hw.grows h) (htz.grows h)
  have C3 := Lib.hid c3
  have c4 : ∀ W, Grows w W → Calls Tryz.prog 9 #[.string ⟨#[97]⟩, .string ⟨#[92, 10]⟩, .string ⟨#[98, 97, 98]⟩, .int .i64 1, .bool true] W fun e w' => e = .returned (.tuple #[.string ⟨#[98, 124, 98]⟩, .int .i64 1]) ∧ Grows W w' := fun W h => one_lit #[97] #[92, 10] #[98, 97, 98] 1 true [98, 124, 98] 1 ok_4 (by decide) (by decide) (by decide) (by decide) (by omega) (by omega) W (hw.grows h) (htz.grows h)
  have C4 := Lib.hid c4
  have c5 : ∀ W, Grows w W → Calls Tryz.prog 9 #[.string ⟨#[92, 40, 46, 92, 41, 92, 40, 46, 92, 41]⟩, .string ⟨#[92, 50, 92, 49]⟩, .string ⟨#[97, 98, 99, 100]⟩, .int .i64 1, .bool true] W fun e w' => e = .returned (.tuple #[.string ⟨#[98, 97, 100, 99]⟩, .int .i64 2]) ∧ Grows W w' := fun W h => one_lit #[92, 40, 46, 92, 41, 92, 40, 46, 92, 41] #[92, 50, 92, 49] #[97, 98, 99, 100] 1 true [98, 97, 100, 99] 2 ok_5 (by decide) (by decide) (by decide) (by decide) (by omega) (by omega) W (hw.grows h) (htz.grows h)
  have C5 := Lib.hid c5
  have c6 : ∀ W, Grows w W → Calls Tryz.prog 9 #[.string ⟨#[113]⟩, .string ⟨#[45]⟩, .string ⟨#[97, 98, 99]⟩, .int .i64 1, .bool true] W fun e w' => e = .returned (.tuple #[.string ⟨#[97, 98, 99]⟩, .int .i64 0]) ∧ Grows W w' := fun W h => one_lit #[113] #[45] #[97, 98, 99] 1 true [97, 98, 99] 0 ok_6 (by decide) (by decide) (by decide) (by decide) (by omega) (by omega) W (hw.grows h) (htz.grows h)
  have C6 := Lib.hid c6
  clear c1 c2 c3 c4 c5 c6
  have HG0 := Lib.hid (Grows.refl w)
  go_enter Tryz.func4, Tryz.ntmps4
  go_wp2_with fail
  (with_reducible refine (C1.out _ HG0.out).mono ?_)
  rintro e9 w1 ⟨rfl, hg1⟩
  have HG1 := Lib.hid (HG0.out.trans hg1)
  clear hg1
  go_wp2_with fail
  (with_reducible refine (C2.out _ HG1.out).mono ?_)
  rintro e9 w2 ⟨rfl, hg2⟩
  have HG2 := Lib.hid (HG1.out.trans hg2)
  clear hg2
  go_wp2_with fail
  (with_reducible refine (C3.out _ HG2.out).mono ?_)
  rintro e9 w3 ⟨rfl, hg3⟩
  have HG3 := Lib.hid (HG2.out.trans hg3)
  clear hg3
  go_wp2_with fail
  (with_reducible refine (C4.out _ HG3.out).mono ?_)
  rintro e9 w4 ⟨rfl, hg4⟩
  have HG4 := Lib.hid (HG3.out.trans hg4)
  clear hg4
  go_wp2_with fail
  (with_reducible refine (C5.out _ HG4.out).mono ?_)
  rintro e9 w5 ⟨rfl, hg5⟩
  have HG5 := Lib.hid (HG4.out.trans hg5)
  clear hg5
  go_wp2_with fail
  (with_reducible refine (C6.out _ HG5.out).mono ?_)
  rintro e9 w6 ⟨rfl, hg6⟩
  have HG6 := Lib.hid (HG5.out.trans hg6)
  clear hg6
  go_wp2_with fail
  go_ret
  exact ⟨rfl, HG6.out⟩
end Go.Proofs.YtkomggeionofbaaGreatDoor

/-
  The law SubstNone, walked.
-/
namespace Go.Proofs.YtkomggeionofbaaGreatDoor
open Go.RowKit

set_option maxRecDepth 3000 in
theorem pat_97 : ∃ y, patV [97] = some y := ⟨_, rfl⟩
set_option maxRecDepth 3000 in
theorem tok_98 : ∃ l, tokF [98] = some l := ⟨_, rfl⟩
set_option maxRecDepth 100000 in
set_option maxHeartbeats 4000000 in
theorem subst_none (s : List UInt8) (nth : Int) (all : Bool) (w : World) (hw : Sane w) (htz : TzAt w) :
    Calls Tryz.prog 3 #[.string (tx s), .int .i64 nth, .bool all] w fun e w' => e = .returned (.bool true) ∧ Grows w w' := by
  have hdo : ∀ W, Grows w W → Calls Tryz.prog 4 #[] W fun e w' => e = .returned (.bool true) ∧ Grows W w' := fun W h => lives_any W (hw.grows h) (htz.grows h)
  have HDO := Lib.hid hdo
  by_cases hs : 100 < s.length
  · have hsi : (100 : Int) < (s.length : Int) := by omega
    clear hdo
    go_enter Tryz.func3, Tryz.ntmps3
    go_wp2_with fail
    (with_reducible refine (HDO.out _ (Grows.refl w)).mono ?_)
    rintro e9 w1 ⟨rfl, hg1⟩
    go_wp2_with fail
    go_ret
    exact ⟨rfl, hg1⟩
  have hsi : ¬ (100 : Int) < (s.length : Int) := by omega
  obtain ⟨y, hy⟩ := pat_97
  obtain ⟨l, hl⟩ := tok_98
  have c1 := bre_parse [97] w (by decide) hw
  rw [hy] at c1
  change Calls _ _ #[.string ⟨#[97]⟩] _ _ at c1
  have HL := Lib.hid hl
  clear hdo hy hl hw htz
  go_enter Tryz.func3, Tryz.ntmps3
  go_wp2_with fail
  (with_reducible refine c1.mono ?_)
  rintro e9 w1 ⟨g, rfl, -, -, hg1⟩
  have c2 := tplParse_any [98] w1 (by decide)
  unfold TplPost at c2
  rw [HL.out] at c2
  change Calls _ _ #[.string ⟨#[98]⟩] _ _ at c2
  have HG1 := Lib.hid hg1
  clear c1 hg1
  go_wp2_with fail
  (with_reducible refine c2.mono ?_)
  rintro e9 w2 ⟨g2, rfl, -, -, hg2⟩
  have HG2 := Lib.hid (HG1.out.trans hg2)
  have c3 := matches_nil s w2
  clear c2 hg2
  go_wp2_with fail
  (with_reducible refine c3.mono ?_)
  rintro e9 w3 ⟨rfl, hg3⟩
  have HG3 := Lib.hid (HG2.out.trans hg3)
  have c4 := line_nil1 (.pointer (some ⟨g2, 0, none⟩)) (.inr ⟨_, rfl⟩) s nth all w3
  clear c3 hg3
  go_wp2_with fail
  (with_reducible refine c4.mono ?_)
  rintro e9 w4 ⟨rfl, hg4⟩
  have HG4 := Lib.hid (HG3.out.trans hg4)
  have c5 := line_nil2 ⟨g, 1, none⟩ s nth all w4
  clear c4 hg4
  go_wp2_with fail
  (with_reducible refine c5.mono ?_)
  rintro e9 w5 ⟨rfl, hg5⟩
  have HG5 := Lib.hid (HG4.out.trans hg5)
  obtain ⟨m, hm⟩ : ∃ m, min nth 0 = m := ⟨_, rfl⟩
  have hm1 : m < 1 := by omega
  have c6 := line_low ⟨g, 1, none⟩ ⟨g2, 0, none⟩ s m hm1 all w5
  clear c5 hg5
  go_wp2_with fail
  (with_reducible refine c6.mono ?_)
  rintro e9 w6 ⟨rfl, hg6⟩
  have HG6 := Lib.hid (HG5.out.trans hg6)
  clear c6 hg6
  go_wp2_with fail
  (with_reducible refine (HDO.out _ HG6.out).mono ?_)
  rintro e9 w7 ⟨rfl, hg7⟩
  go_wp2_with fail
  go_ret
  exact ⟨rfl, HG6.out.trans hg7⟩
end Go.Proofs.YtkomggeionofbaaGreatDoor
