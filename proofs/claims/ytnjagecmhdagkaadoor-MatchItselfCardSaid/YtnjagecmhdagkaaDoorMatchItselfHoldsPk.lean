/-
  The law MatchItself, said of its row and of its card.
  A text of letters, as a pattern, is matched where it is found first, and nowhere else. The row lists two tables of unicode/utf8 (one pinned); the card ties them to the program's text.
-/
import Derived.Test.YtnjagecmhdagkaaDoorPqMatchItselfHolds48
import Derived.Test.YtnjagecmhdagkaaDoorPk39
import Derived.Test.YtnjagecmhdagkaaDoorTie
import Derived.Test.YtnjagecmhdagkaaDoorCards
set_option linter.unusedSimpArgs false
set_option linter.unusedVariables false
namespace Go.Proofs.YtnjagecmhdagkaaDoor
open Go.ChangeShapes Go.WideShapes Go.ChangeAt Go.RowKit Go.Joins Go.ChangeMaps

set_option maxRecDepth 100000 in
set_option maxHeartbeats 4000000 in
theorem matchItself_lifted (os : Os) (started : os.Started) (H : Type) (enc : TypeId × Value → H) :
    ReturnsInHanded {} Tryd.checked os 6 .any (fun w args => (Rows.matchItselfSpec.pre enc Tryd.prog Tryd.f6 Rows.matchItselfRow.domain false w args ∧ laidMetH Tryd.prog Rows.matchItselfRow.laid w) ∧ sizedMet enc Tryd.prog Tryd.f6 (OpenSpec.ofChange Rows.matchItselfSpec) false w args) (Rows.matchItselfSpec.post enc Tryd.prog Tryd.f6 false true false false) :=
  law_lifted_doorT (s := Rows.matchItselfSpec) started (by kernel_rfl) Tryd.func6 rfl (by kernel_rfl) (by kernel_rfl)
    (fun ds h => by
      rw [show Tryd.f6.params.size = 3 by kernel_rfl] at h
      match ds, h with
      | [_, _, _], _ => rfl)
    (ChangeSpec.witness_shaped (enc := enc) (C := Tryd.checked) (os := os) (X := fun w _ => laidMetH Tryd.prog Rows.matchItselfRow.laid w) false (World.laidAll Tryd.prog os Rows.matchItselfRow.laid) #[.slice none 0 0, .slice none 0 0, .int .u8 0] 8 (World.laidAll_os _ _ _)
      (World.shaped_of_ZipB (by kernel_rfl) (by kernel_rfl)) (by kernel_rfl) (by kernel_rfl) (by kernel_rfl)
      (by rw [MakeChecks.laidMetH_plain _ _ _ (by kernel_rfl)]; exact laidMet_laidAll _ (by kernel_rfl) (by kernel_rfl)))
    (fun W base args ds p hval hA hsh hlaid => by
      rw [Tryd.params6] at hA hval
      obtain ⟨v0, v1, v2, d0, d1, d2, p0, p1, p2, rfl, rfl, rfl, h0, h1, h2⟩ := trodAll_three hA
      obtain ⟨nsA, ns, nsC, rfl, hns⟩ := open_bytes (hval 0 33 v0 rfl rfl) h0
      obtain ⟨hsA, hs, hsC, rfl, hhs⟩ := open_bytes (hval 1 33 v1 rfl rfl) h1
      obtain ⟨x0, rfl, -, -, hx⟩ := open_int Tryd.underlying5 (hval 2 5 v2 rfl rfl) h2
      have hx := u8_wf hx
      obtain ⟨x, rfl⟩ : ∃ n : Nat, x0 = n := ⟨x0.toNat, by omega⟩
      exact match_itself _ _ ns _ _ hs x W (sane_of_door hsh) (tz_of_laid (by kernel_rfl) (by kernel_rfl) hlaid) hns hhs (by omega))

set_option maxRecDepth 3000 in
theorem matchItself_row : Rows.MatchItselfSaid :=
  OpenClaim.holds_of_wide 6 Tryd.f6 rfl rfl rfl rfl rfl rfl rfl ⟨rfl, rfl, rfl, rfl, rfl⟩ rfl rfl rfl rfl rfl (by kernel_rfl) Tryd.func6 (by kernel_rfl)
    (of_decide_eq_true (by kernel_rfl)) (by unfold Func.isWrapper; first | (rw [if_pos (by decide +kernel)]; kernel_rfl) | (rw [if_neg (by decide +kernel)]; exact ⟨rfl, rfl⟩))
    (fun os started H enc _ => matchItself_lifted os started H enc)

set_option maxRecDepth 3000 in
theorem matchItself_holds : Rows.MatchItselfCardSaid :=
  Claim7.holds_tied_plain_at .later [] [.data, .data, .pinned] true Rows.matchItselfCard.stood.harness true matchItself_row (fun _ h => by cases h) (by kernel_rfl) (fun _ h => by cases h) matchItself_row_tie rfl ⟨rfl, rfl⟩ (by kernel_rfl) rfl
    (fun f fn hf hfn => by
      obtain rfl : f = 6 := Option.some.inj ((show Tryd.prog.funcNamed "inkhorn/inkhornlaw10.MatchItself" = some 6 by kernel_rfl).symm.trans hf) |>.symm
      obtain rfl : fn = Tryd.f6 := (Option.some.inj (Tryd.func6.symm.trans hfn)).symm
      exact ⟨by kernel_rfl, fun j t ht => by
        rw [Tryd.params6] at ht
        have hm : t ∈ [33, 33, 5] := by simpa using Array.mem_of_getElem? ht
        have hall : ([33, 33, 5].all fun u => !Tryd.prog.wantsStandIn u) = true := by kernel_rfl
        exact (show Tryd.prog.wantsStandIn t = false by simpa using List.all_eq_true.1 hall t hm)⟩)
    (by kernel_rfl)

#print axioms matchItself_holds
end Go.Proofs.YtnjagecmhdagkaaDoor
