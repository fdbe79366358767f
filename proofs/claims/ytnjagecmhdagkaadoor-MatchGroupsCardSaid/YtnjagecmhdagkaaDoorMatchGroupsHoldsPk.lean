/-
  The law MatchGroups, said of its row and of its card.
  Two groups of such rows, one behind the other, and a row behind them: the match is that of all three rows; the first group has the longest stretch with which the rest fits, then the second one. The row lists two tables of unicode/utf8 (one pinned); the card ties them to the program's text.
-/
import Derived.Test.YtnjagecmhdagkaaDoorPk48
import Derived.Test.YtnjagecmhdagkaaDoorPk49
import Derived.Test.YtnjagecmhdagkaaDoorPk50
import Derived.Test.YtnjagecmhdagkaaDoorPk44
import Derived.Test.YtnjagecmhdagkaaDoorTie
import Derived.Test.YtnjagecmhdagkaaDoorCards
set_option linter.unusedSimpArgs false
set_option linter.unusedVariables false
namespace Go.Proofs.YtnjagecmhdagkaaDoor
open Go.ChangeShapes Go.WideShapes Go.ChangeAt Go.RowKit Go.Joins Go.ChangeMaps

set_option maxRecDepth 100000 in
set_option maxHeartbeats 4000000 in
theorem matchGroups_lifted (os : Os) (started : os.Started) (H : Type) (enc : TypeId × Value → H) :
    ReturnsInHanded {} Tryd.checked os 5 .any (fun w args => (Rows.matchGroupsSpec.pre enc Tryd.prog Tryd.f5 Rows.matchGroupsRow.domain false w args ∧ laidMetH Tryd.prog Rows.matchGroupsRow.laid w) ∧ sizedMet enc Tryd.prog Tryd.f5 (OpenSpec.ofChange Rows.matchGroupsSpec) false w args) (Rows.matchGroupsSpec.post enc Tryd.prog Tryd.f5 false true false false) :=
  law_lifted_doorT (s := Rows.matchGroupsSpec) started (by kernel_rfl) Tryd.func5 rfl (by kernel_rfl) (by kernel_rfl)
    (fun ds h => by
      rw [show Tryd.f5.params.size = 2 by kernel_rfl] at h
      match ds, h with
      | [_, _], _ => rfl)
    (ChangeSpec.witness_shaped (enc := enc) (C := Tryd.checked) (os := os) (X := fun w _ => laidMetH Tryd.prog Rows.matchGroupsRow.laid w) false (World.laidAll Tryd.prog os Rows.matchGroupsRow.laid) #[.agg #[.slice none 0 0, .slice none 0 0, .slice none 0 0], .slice none 0 0] 8 (World.laidAll_os _ _ _)
      (World.shaped_of_ZipB (by kernel_rfl) (by kernel_rfl)) (by kernel_rfl) (by kernel_rfl) (by kernel_rfl)
      (by rw [MakeChecks.laidMetH_plain _ _ _ (by kernel_rfl)]; exact laidMet_laidAll _ (by kernel_rfl) (by kernel_rfl)))
    (fun W base args ds p hval hA hsh hlaid => by
      rw [Tryd.params5] at hA hval
      obtain ⟨v0, v1, d0, d1, p0, p1, rfl, rfl, rfl, h0, h1⟩ := trodAll_two hA
      obtain ⟨lA, lB, lC, l1, l2, l3, la, lb, lc, rfl, hl1, hl2, hl3⟩ := open_three (hval 0 40 v0 rfl rfl) h0
      obtain ⟨nsA, ns, nsC, rfl, hns⟩ := open_bytes (hval 1 33 v1 rfl rfl) h1
      exact match_groups _ _ _ l1 l2 l3 _ _ _ _ _ ns W (sane_of_door hsh) (tz_of_laid (by kernel_rfl) (by kernel_rfl) hlaid) hl1 hl2 hl3 hns)

set_option maxRecDepth 3000 in
theorem matchGroups_row : Rows.MatchGroupsSaid :=
  OpenClaim.holds_of_wide 5 Tryd.f5 rfl rfl rfl rfl rfl rfl rfl ⟨rfl, rfl, rfl, rfl, rfl⟩ rfl rfl rfl rfl rfl (by kernel_rfl) Tryd.func5 (by kernel_rfl)
    (of_decide_eq_true (by kernel_rfl)) (by unfold Func.isWrapper; first | (rw [if_pos (by decide +kernel)]; kernel_rfl) | (rw [if_neg (by decide +kernel)]; exact ⟨rfl, rfl⟩))
    (fun os started H enc _ => matchGroups_lifted os started H enc)

set_option maxRecDepth 3000 in
theorem matchGroups_holds : Rows.MatchGroupsCardSaid :=
  Claim7.holds_tied_plain_at .later [] [.data, .data, .pinned] true Rows.matchGroupsCard.stood.harness true matchGroups_row (fun _ h => by cases h) (by kernel_rfl) (fun _ h => by cases h) matchGroups_row_tie rfl ⟨rfl, rfl⟩ (by kernel_rfl) rfl
    (fun f fn hf hfn => by
      obtain rfl : f = 5 := Option.some.inj ((show Tryd.prog.funcNamed "inkhorn/inkhornlaw10.MatchGroups" = some 5 by kernel_rfl).symm.trans hf) |>.symm
      obtain rfl : fn = Tryd.f5 := (Option.some.inj (Tryd.func5.symm.trans hfn)).symm
      exact ⟨by kernel_rfl, fun j t ht => by
        rw [Tryd.params5] at ht
        have hm : t ∈ [40, 33] := by simpa using Array.mem_of_getElem? ht
        have hall : ([40, 33].all fun u => !Tryd.prog.wantsStandIn u) = true := by kernel_rfl
        exact (show Tryd.prog.wantsStandIn t = false by simpa using List.all_eq_true.1 hall t hm)⟩)
    (by kernel_rfl)

#print axioms matchGroups_holds
end Go.Proofs.YtnjagecmhdagkaaDoor
