/-
  The law MatchWithin, said of its row and of its card.
  Groups' stretches lie within the match; a match is also that from any place between the one that was said and its beginning. The row lists two tables of unicode/utf8 (one pinned); the card ties them to the program's text.
-/
import Derived.Test.YtnjagecmhdagkaaGreatDoorPqMatchWithinHolds45
import Derived.Test.YtnjagecmhdagkaaGreatDoorPk41
import Derived.Test.YtnjagecmhdagkaaGreatDoorTie
import Derived.Test.YtnjagecmhdagkaaGreatDoorCards
namespace Go.Proofs.YtnjagecmhdagkaaGreatDoor
open Go.ChangeShapes Go.WideShapes Go.ChangeAt Go.RowKit Go.Joins Go.ChangeMaps

set_option maxRecDepth 100000 in
set_option maxHeartbeats 4000000 in
theorem matchWithin_lifted (os : Os) (started : os.Started) (H : Type) (enc : TypeId × Value → H) :
    ReturnsInHanded {} Tryz.checked os 6 .any (fun w args => (Rows.matchWithinSpec.pre enc Tryz.prog Tryz.f6 Rows.matchWithinRow.domain false w args ∧ laidMetH Tryz.prog Rows.matchWithinRow.laid w) ∧ sizedMet enc Tryz.prog Tryz.f6 (OpenSpec.ofChange Rows.matchWithinSpec) false w args) (Rows.matchWithinSpec.post enc Tryz.prog Tryz.f6 false true false false) :=
  law_lifted_doorT (s := Rows.matchWithinSpec) started (by kernel_rfl) Tryz.func6 rfl (by kernel_rfl) (by kernel_rfl)
    (fun ds h => by
      rw [show Tryz.f6.params.size = 3 by kernel_rfl] at h
      match ds, h with
      | [_, _, _], _ => rfl)
    (ChangeSpec.witness_shaped (enc := enc) (C := Tryz.checked) (os := os) (X := fun w _ => laidMetH Tryz.prog Rows.matchWithinRow.laid w) false (World.laidAll Tryz.prog os Rows.matchWithinRow.laid) #[.string ByteArray.empty, .string ByteArray.empty, .int .i64 0] 8 (World.laidAll_os _ _ _)
      (World.shaped_of_ZipB (by kernel_rfl) (by kernel_rfl)) (by kernel_rfl) (by kernel_rfl) (by kernel_rfl)
      (by rw [MakeChecks.laidMetH_plain _ _ _ (by kernel_rfl)]; exact laidMet_laidAll _ (by kernel_rfl) (by kernel_rfl)))
    (fun W base args ds p hval hA hsh hlaid => by
      rw [Tryz.params6] at hA hval
      obtain ⟨v0, v1, v2, d0, d1, d2, p0, p1, p2, rfl, rfl, rfl, h0, h1, h2⟩ := trodAll_three hA
      obtain ⟨p, rfl, -, -, hp⟩ := open_string Tryz.underlying9 (hval 0 9 v0 rfl rfl) h0
      obtain ⟨s, rfl, -, -, hs⟩ := open_string Tryz.underlying9 (hval 1 9 v1 rfl rfl) h1
      obtain ⟨k, rfl, -, -, hk⟩ := open_int Tryz.underlying3 (hval 2 3 v2 rfl rfl) h2
      exact match_within p.data.toList s.data.toList k W (sane_of_door hsh) (tz_of_laid (by kernel_rfl) (by kernel_rfl) hlaid) (i64_wf hk))

set_option maxRecDepth 3000 in
theorem matchWithin_row : Rows.MatchWithinSaid :=
  OpenClaim.holds_of_wide 6 Tryz.f6 rfl rfl rfl rfl rfl rfl rfl ⟨rfl, rfl, rfl, rfl, rfl⟩ rfl rfl rfl rfl rfl (by kernel_rfl) Tryz.func6 (by kernel_rfl)
    (of_decide_eq_true (by kernel_rfl)) (by unfold Func.isWrapper; first | (rw [if_pos (by decide +kernel)]; kernel_rfl) | (rw [if_neg (by decide +kernel)]; exact ⟨rfl, rfl⟩))
    (fun os started H enc _ => matchWithin_lifted os started H enc)

set_option maxRecDepth 3000 in
theorem matchWithin_holds : Rows.MatchWithinCardSaid :=
  Claim7.holds_tied_plain_at .later [] [.data, .data, .pinned] true Rows.matchWithinCard.stood.harness true matchWithin_row (fun _ h => by cases h) (by kernel_rfl) (fun _ h => by cases h) matchWithin_row_tie rfl ⟨rfl, rfl⟩ (by kernel_rfl) rfl
    (fun f fn hf hfn => by
      obtain rfl : f = 6 := Option.some.inj ((show Tryz.prog.funcNamed "inkhorn/inkhornlaw10.MatchWithin" = some 6 by kernel_rfl).symm.trans hf) |>.symm
      obtain rfl : fn = Tryz.f6 := (Option.some.inj (Tryz.func6.symm.trans hfn)).symm
      exact ⟨by kernel_rfl, fun j t ht => by
        rw [Tryz.params6] at ht
        have hm : t ∈ [9, 9, 3] := by simpa using Array.mem_of_getElem? ht
        have hall : ([9, 9, 3].all fun u => !Tryz.prog.wantsStandIn u) = true := by kernel_rfl
        exact (show Tryz.prog.wantsStandIn t = false by simpa using List.all_eq_true.1 hall t hm)⟩)
    (by kernel_rfl)

#print axioms matchWithin_holds
end Go.Proofs.YtnjagecmhdagkaaGreatDoor
