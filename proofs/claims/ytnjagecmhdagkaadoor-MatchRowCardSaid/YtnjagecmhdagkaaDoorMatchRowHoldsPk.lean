/-
  The law MatchRow, said of its row and of its card.
  A row of letters and dots, starred or not, matches at the least place from which some stretch fits it, and there the longest one that does. The row lists two tables of unicode/utf8 (one pinned); the card ties them to the program's text.
-/
import Derived.Test.YtnjagecmhdagkaaDoorPqMatchRowHolds49
import Derived.Test.YtnjagecmhdagkaaDoorPk39
import Derived.Test.YtnjagecmhdagkaaDoorTie
import Derived.Test.YtnjagecmhdagkaaDoorCards
set_option linter.unusedSimpArgs false
set_option linter.unusedVariables false
namespace Go.Proofs.YtnjagecmhdagkaaDoor
open Go.ChangeShapes Go.WideShapes Go.ChangeAt Go.RowKit Go.Joins Go.ChangeMaps

set_option maxRecDepth 100000 in
set_option maxHeartbeats 4000000 in
theorem matchRow_lifted (os : Os) (started : os.Started) (H : Type) (enc : TypeId × Value → H) :
    ReturnsInHanded {} Tryd.checked os 4 .any (fun w args => (Rows.matchRowSpec.pre enc Tryd.prog Tryd.f4 Rows.matchRowRow.domain false w args ∧ laidMetH Tryd.prog Rows.matchRowRow.laid w) ∧ sizedMet enc Tryd.prog Tryd.f4 (OpenSpec.ofChange Rows.matchRowSpec) false w args) (Rows.matchRowSpec.post enc Tryd.prog Tryd.f4 false true false false) :=
  law_lifted_doorT (s := Rows.matchRowSpec) started (by kernel_rfl) Tryd.func4 rfl (by kernel_rfl) (by kernel_rfl)
    (fun ds h => by
      rw [show Tryd.f4.params.size = 3 by kernel_rfl] at h
      match ds, h with
      | [_, _, _], _ => rfl)
    (ChangeSpec.witness_shaped (enc := enc) (C := Tryd.checked) (os := os) (X := fun w _ => laidMetH Tryd.prog Rows.matchRowRow.laid w) false (World.laidAll Tryd.prog os Rows.matchRowRow.laid) #[.slice none 0 0, .slice none 0 0, .int .u8 0] 8 (World.laidAll_os _ _ _)
      (World.shaped_of_ZipB (by kernel_rfl) (by kernel_rfl)) (by kernel_rfl) (by kernel_rfl) (by kernel_rfl)
      (by rw [MakeChecks.laidMetH_plain _ _ _ (by kernel_rfl)]; exact laidMet_laidAll _ (by kernel_rfl) (by kernel_rfl)))
    (fun W base args ds p hval hA hsh hlaid => by
      rw [Tryd.params4] at hA hval
      obtain ⟨v0, v1, v2, d0, d1, d2, p0, p1, p2, rfl, rfl, rfl, h0, h1, h2⟩ := trodAll_three hA
      obtain ⟨lA, l, lC, rfl, hl⟩ := open_atoms (hval 0 32 v0 rfl rfl) h0
      obtain ⟨hsA, hs, hsC, rfl, hhs⟩ := open_bytes (hval 1 33 v1 rfl rfl) h1
      obtain ⟨x0, rfl, -, -, hx⟩ := open_int Tryd.underlying5 (hval 2 5 v2 rfl rfl) h2
      have hx := u8_wf hx
      obtain ⟨x, rfl⟩ : ∃ n : Nat, x0 = n := ⟨x0.toNat, by omega⟩
      exact match_row _ _ l _ _ hs x W (sane_of_door hsh) (tz_of_laid (by kernel_rfl) (by kernel_rfl) hlaid) hl hhs (by omega))

set_option maxRecDepth 3000 in
theorem matchRow_row : Rows.MatchRowSaid :=
  OpenClaim.holds_of_wide 4 Tryd.f4 rfl rfl rfl rfl rfl rfl rfl ⟨rfl, rfl, rfl, rfl, rfl⟩ rfl rfl rfl rfl rfl (by kernel_rfl) Tryd.func4 (by kernel_rfl)
    (of_decide_eq_true (by kernel_rfl)) (by unfold Func.isWrapper; first | (rw [if_pos (by decide +kernel)]; kernel_rfl) | (rw [if_neg (by decide +kernel)]; exact ⟨rfl, rfl⟩))
    (fun os started H enc _ => matchRow_lifted os started H enc)

set_option maxRecDepth 3000 in
theorem matchRow_holds : Rows.MatchRowCardSaid :=
  Claim7.holds_tied_plain_at .later [] [.data, .data, .pinned] true Rows.matchRowCard.stood.harness true matchRow_row (fun _ h => by cases h) (by kernel_rfl) (fun _ h => by cases h) matchRow_row_tie rfl ⟨rfl, rfl⟩ (by kernel_rfl) rfl
    (fun f fn hf hfn => by
      obtain rfl : f = 4 := Option.some.inj ((show Tryd.prog.funcNamed "inkhorn/inkhornlaw10.MatchRow" = some 4 by kernel_rfl).symm.trans hf) |>.symm
      obtain rfl : fn = Tryd.f4 := (Option.some.inj (Tryd.func4.symm.trans hfn)).symm
      exact ⟨by kernel_rfl, fun j t ht => by
        rw [Tryd.params4] at ht
        have hm : t ∈ [32, 33, 5] := by simpa using Array.mem_of_getElem? ht
        have hall : ([32, 33, 5].all fun u => !Tryd.prog.wantsStandIn u) = true := by kernel_rfl
        exact (show Tryd.prog.wantsStandIn t = false by simpa using List.all_eq_true.1 hall t hm)⟩)
    (by kernel_rfl)

#print axioms matchRow_holds
end Go.Proofs.YtnjagecmhdagkaaDoor
