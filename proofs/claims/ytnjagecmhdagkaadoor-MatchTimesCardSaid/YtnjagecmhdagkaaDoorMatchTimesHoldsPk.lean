/-
  The law MatchTimes, said of its row and of its card.
  A letter, from so many up to so many times, matches in a row of such letters just so many, as far as there are. The row lists two tables of unicode/utf8 (one pinned); the card ties them to the program's text.
-/
import Derived.Test.YtnjagecmhdagkaaDoorPqMatchTimesHolds47
import Derived.Test.YtnjagecmhdagkaaDoorPqMatchTimesHolds49
import Derived.Test.YtnjagecmhdagkaaDoorPk39
import Derived.Test.YtnjagecmhdagkaaDoorTie
import Derived.Test.YtnjagecmhdagkaaDoorCards
set_option linter.unusedSimpArgs false
set_option linter.unusedVariables false
namespace Go.Proofs.YtnjagecmhdagkaaDoor
open Go.ChangeShapes Go.WideShapes Go.ChangeAt Go.RowKit Go.Joins Go.ChangeMaps

set_option maxRecDepth 100000 in
set_option maxHeartbeats 4000000 in
theorem matchTimes_lifted (os : Os) (started : os.Started) (H : Type) (enc : TypeId × Value → H) :
    ReturnsInHanded {} Tryd.checked os 7 .any (fun w args => (Rows.matchTimesSpec.pre enc Tryd.prog Tryd.f7 Rows.matchTimesRow.domain false w args ∧ laidMetH Tryd.prog Rows.matchTimesRow.laid w) ∧ sizedMet enc Tryd.prog Tryd.f7 (OpenSpec.ofChange Rows.matchTimesSpec) false w args) (Rows.matchTimesSpec.post enc Tryd.prog Tryd.f7 false true false false) :=
  law_lifted_doorT (s := Rows.matchTimesSpec) started (by kernel_rfl) Tryd.func7 rfl (by kernel_rfl) (by kernel_rfl)
    (fun ds h => by
      rw [show Tryd.f7.params.size = 3 by kernel_rfl] at h
      match ds, h with
      | [_, _, _], _ => rfl)
    (ChangeSpec.witness_shaped (enc := enc) (C := Tryd.checked) (os := os) (X := fun w _ => laidMetH Tryd.prog Rows.matchTimesRow.laid w) false (World.laidAll Tryd.prog os Rows.matchTimesRow.laid) #[.agg #[.int .u8 0, .int .u8 0], .int .u8 0, .bool false] 8 (World.laidAll_os _ _ _)
      (World.shaped_of_ZipB (by kernel_rfl) (by kernel_rfl)) (by kernel_rfl) (by kernel_rfl) (by kernel_rfl)
      (by rw [MakeChecks.laidMetH_plain _ _ _ (by kernel_rfl)]; exact laidMet_laidAll _ (by kernel_rfl) (by kernel_rfl)))
    (fun W base args ds p hval hA hsh hlaid => by
      rw [Tryd.params7] at hA hval
      obtain ⟨v0, v1, v2, d0, d1, d2, p0, p1, p2, rfl, rfl, rfl, h0, h1, h2⟩ := trodAll_three hA
      obtain ⟨x1, x2, rfl, hx1, hx2⟩ := open_two8 (hval 0 43 v0 rfl rfl) h0
      obtain ⟨z0, rfl, -, -, hz⟩ := open_int Tryd.underlying5 (hval 1 5 v1 rfl rfl) h1
      have hz := u8_wf hz
      obtain ⟨z, rfl⟩ : ∃ n : Nat, z0 = n := ⟨z0.toNat, by omega⟩
      obtain ⟨op, rfl, -, -⟩ := open_bool Tryd.underlying4 (hval 2 4 v2 rfl rfl) h2
      exact match_times x1 x2 z op W (sane_of_door hsh) (tz_of_laid (by kernel_rfl) (by kernel_rfl) hlaid) hx1 hx2 (by omega))

set_option maxRecDepth 3000 in
theorem matchTimes_row : Rows.MatchTimesSaid :=
  OpenClaim.holds_of_wide 7 Tryd.f7 rfl rfl rfl rfl rfl rfl rfl ⟨rfl, rfl, rfl, rfl, rfl⟩ rfl rfl rfl rfl rfl (by kernel_rfl) Tryd.func7 (by kernel_rfl)
    (of_decide_eq_true (by kernel_rfl)) (by unfold Func.isWrapper; first | (rw [if_pos (by decide +kernel)]; kernel_rfl) | (rw [if_neg (by decide +kernel)]; exact ⟨rfl, rfl⟩))
    (fun os started H enc _ => matchTimes_lifted os started H enc)

set_option maxRecDepth 3000 in
theorem matchTimes_holds : Rows.MatchTimesCardSaid :=
  Claim7.holds_tied_plain_at .later [] [.data, .data, .pinned] true Rows.matchTimesCard.stood.harness true matchTimes_row (fun _ h => by cases h) (by kernel_rfl) (fun _ h => by cases h) matchTimes_row_tie rfl ⟨rfl, rfl⟩ (by kernel_rfl) rfl
    (fun f fn hf hfn => by
      obtain rfl : f = 7 := Option.some.inj ((show Tryd.prog.funcNamed "inkhorn/inkhornlaw10.MatchTimes" = some 7 by kernel_rfl).symm.trans hf) |>.symm
      obtain rfl : fn = Tryd.f7 := (Option.some.inj (Tryd.func7.symm.trans hfn)).symm
      exact ⟨by kernel_rfl, fun j t ht => by
        rw [Tryd.params7] at ht
        have hm : t ∈ [43, 5, 4] := by simpa using Array.mem_of_getElem? ht
        have hall : ([43, 5, 4].all fun u => !Tryd.prog.wantsStandIn u) = true := by kernel_rfl
        exact (show Tryd.prog.wantsStandIn t = false by simpa using List.all_eq_true.1 hall t hm)⟩)
    (by kernel_rfl)

#print axioms matchTimes_holds
end Go.Proofs.YtnjagecmhdagkaaDoor
