/-
  The law SubstNone, said of its row and of its card.
  Of a pattern or a replacement that is none nothing is replaced; nor from a match below the first one on. The row lists two tables of unicode/utf8 (one pinned); the card ties them to the program's text.
-/
import Derived.Test.YtkomggeionofbaaGreatDoorPk49
import Derived.Test.YtkomggeionofbaaGreatDoorPk50
import Derived.Test.YtkomggeionofbaaGreatDoorPk46
import Derived.Test.YtkomggeionofbaaGreatDoorTie
import Derived.Test.YtkomggeionofbaaGreatDoorCards
set_option linter.unusedSimpArgs false
set_option linter.unusedVariables false
namespace Go.Proofs.YtkomggeionofbaaGreatDoor
open Go.ChangeShapes Go.WideShapes Go.ChangeAt Go.RowKit Go.Joins Go.ChangeMaps

set_option maxRecDepth 100000 in
set_option maxHeartbeats 4000000 in
theorem substNone_lifted (os : Os) (started : os.Started) (H : Type) (enc : TypeId × Value → H) :
    ReturnsInHanded {} Tryz.checked os 3 .any (fun w args => (Rows.substNoneSpec.pre enc Tryz.prog Tryz.f3 Rows.substNoneRow.domain false w args ∧ laidMetH Tryz.prog Rows.substNoneRow.laid w) ∧ sizedMet enc Tryz.prog Tryz.f3 (OpenSpec.ofChange Rows.substNoneSpec) false w args) (Rows.substNoneSpec.post enc Tryz.prog Tryz.f3 false true false false) :=
  law_lifted_doorT (s := Rows.substNoneSpec) started (by kernel_rfl) Tryz.func3 rfl (by kernel_rfl) (by kernel_rfl)
    (fun ds h => by
      rw [show Tryz.f3.params.size = 3 by kernel_rfl] at h
      match ds, h with
      | [_, _, _], _ => rfl)
    (ChangeSpec.witness_shaped (enc := enc) (C := Tryz.checked) (os := os) (X := fun w _ => laidMetH Tryz.prog Rows.substNoneRow.laid w) false (World.laidAll Tryz.prog os Rows.substNoneRow.laid) #[.string ByteArray.empty, .int .i64 0, .bool false] 8 (World.laidAll_os _ _ _)
      (World.shaped_of_ZipB (by kernel_rfl) (by kernel_rfl)) (by kernel_rfl) (by kernel_rfl) (by kernel_rfl)
      (by rw [MakeChecks.laidMetH_plain _ _ _ (by kernel_rfl)]; exact laidMet_laidAll _ (by kernel_rfl) (by kernel_rfl)))
    (fun W base args ds p hval hA hsh hlaid => by
      rw [Tryz.params3] at hA hval
      obtain ⟨v0, v1, v2, d0, d1, d2, p0, p1, p2, rfl, rfl, rfl, h0, h1, h2⟩ := trodAll_three hA
      obtain ⟨s, rfl, -, -, hs⟩ := open_string Tryz.underlying9 (hval 0 9 v0 rfl rfl) h0
      obtain ⟨nth, rfl, -, -, hnth⟩ := open_int Tryz.underlying3 (hval 1 3 v1 rfl rfl) h1
      obtain ⟨all, rfl, -, -⟩ := open_bool Tryz.underlying4 (hval 2 4 v2 rfl rfl) h2
      exact subst_none s.data.toList nth all W (sane_of_door hsh) (tz_of_laid (by kernel_rfl) (by kernel_rfl) hlaid))

set_option maxRecDepth 3000 in
theorem substNone_row : Rows.SubstNoneSaid :=
  OpenClaim.holds_of_wide 3 Tryz.f3 rfl rfl rfl rfl rfl rfl rfl ⟨rfl, rfl, rfl, rfl, rfl⟩ rfl rfl rfl rfl rfl (by kernel_rfl) Tryz.func3 (by kernel_rfl)
    (of_decide_eq_true (by kernel_rfl)) (by unfold Func.isWrapper; first | (rw [if_pos (by decide +kernel)]; kernel_rfl) | (rw [if_neg (by decide +kernel)]; exact ⟨rfl, rfl⟩))
    (fun os started H enc _ => substNone_lifted os started H enc)

set_option maxRecDepth 3000 in
theorem substNone_holds : Rows.SubstNoneCardSaid :=
  Claim7.holds_tied_plain_at .later [] [.data, .data, .pinned] true Rows.substNoneCard.stood.harness true substNone_row (fun _ h => by cases h) (by kernel_rfl) (fun _ h => by cases h) substNone_row_tie rfl ⟨rfl, rfl⟩ (by kernel_rfl) rfl
    (fun f fn hf hfn => by
      obtain rfl : f = 3 := Option.some.inj ((show Tryz.prog.funcNamed "inkhorn/inkhornlaw22.SubstNone" = some 3 by kernel_rfl).symm.trans hf) |>.symm
      obtain rfl : fn = Tryz.f3 := (Option.some.inj (Tryz.func3.symm.trans hfn)).symm
      exact ⟨by kernel_rfl, fun j t ht => by
        rw [Tryz.params3] at ht
        have hm : t ∈ [9, 3, 4] := by simpa using Array.mem_of_getElem? ht
        have hall : ([9, 3, 4].all fun u => !Tryz.prog.wantsStandIn u) = true := by kernel_rfl
        exact (show Tryz.prog.wantsStandIn t = false by simpa using List.all_eq_true.1 hall t hm)⟩)
    (by kernel_rfl)

#print axioms substNone_holds
end Go.Proofs.YtkomggeionofbaaGreatDoor
