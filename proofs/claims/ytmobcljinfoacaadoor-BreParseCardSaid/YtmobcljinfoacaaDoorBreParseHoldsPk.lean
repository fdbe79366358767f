/-
  The law BreParse, said of its row and of its card.
  BreParse returns true for every text; the text reads as it did. The row lists two tables of unicode/utf8 (one pinned); the card ties them to the program's text.
-/
import Derived.Test.YtmobcljinfoacaaDoorPk44
import Derived.Test.YtmobcljinfoacaaDoorPk45
import Derived.Test.YtmobcljinfoacaaDoorPk46
import Derived.Test.YtmobcljinfoacaaDoorTie
import Derived.Test.YtmobcljinfoacaaDoorCards
namespace Go.Proofs.YtmobcljinfoacaaDoor
open Go.ChangeShapes Go.WideShapes Go.ChangeAt Go.RowKit Go.Joins Go.ChangeMaps

set_option maxRecDepth 100000 in
theorem breParse_lifted (os : Os) (started : os.Started) (H : Type) (enc : TypeId × Value → H) :
    ReturnsInHanded {} Tryd.checked os 3 .any (fun w args => (Rows.breParseSpec.pre enc Tryd.prog Tryd.f3 Rows.breParseRow.domain false w args ∧ laidMetH Tryd.prog Rows.breParseRow.laid w) ∧ sizedMet enc Tryd.prog Tryd.f3 (OpenSpec.ofChange Rows.breParseSpec) false w args) (Rows.breParseSpec.post enc Tryd.prog Tryd.f3 false true false false) :=
  law_lifted_door (s := Rows.breParseSpec) started (by kernel_rfl) Tryd.func3 rfl (by kernel_rfl) (by kernel_rfl)
    (fun ds h => by
      rw [show Tryd.f3.params.size = 1 by kernel_rfl] at h
      match ds, h with
      | [_], _ => rfl)
    (ChangeSpec.witness_shaped (enc := enc) (C := Tryd.checked) (os := os) (X := fun w _ => laidMetH Tryd.prog Rows.breParseRow.laid w) false (World.laidAll Tryd.prog os Rows.breParseRow.laid) #[.string ByteArray.empty] 8 (World.laidAll_os _ _ _)
      (World.shaped_of_ZipB (by kernel_rfl) (by kernel_rfl)) (by kernel_rfl) (by kernel_rfl) (by kernel_rfl)
      (by rw [MakeChecks.laidMetH_plain _ _ _ (by kernel_rfl)]; exact laidMet_laidAll _ (by kernel_rfl) (by kernel_rfl)))
    (fun W base args ds p hval hA hsh => by
      rw [Tryd.params3] at hA hval
      obtain ⟨v0, d0, rfl, rfl, h0⟩ := trodAll_one hA
      obtain ⟨a, rfl, -, -, ha⟩ := open_string Tryd.underlying9 (hval 0 9 v0 rfl rfl) h0
      exact (by have := bre_parse_law a.data.toList W (sane_of_door hsh); rwa [tx_of] at this))

set_option maxRecDepth 3000 in
theorem breParse_row : Rows.BreParseSaid :=
  OpenClaim.holds_of_wide 3 Tryd.f3 rfl rfl rfl rfl rfl rfl rfl ⟨rfl, rfl, rfl, rfl, rfl⟩ rfl rfl rfl rfl rfl (by kernel_rfl) Tryd.func3 (by kernel_rfl)
    (of_decide_eq_true (by kernel_rfl)) (by unfold Func.isWrapper; first | (rw [if_pos (by decide +kernel)]; kernel_rfl) | (rw [if_neg (by decide +kernel)]; exact ⟨rfl, rfl⟩))
    (fun os started H enc _ => breParse_lifted os started H enc)

set_option maxRecDepth 3000 in
theorem breParse_holds : Rows.BreParseCardSaid :=
  Claim7.holds_tied_plain_at .later [] [.data, .pinned] true Rows.breParseCard.stood.harness true breParse_row (fun _ h => by cases h) (by kernel_rfl) (fun _ h => by cases h) breParse_row_tie rfl ⟨rfl, rfl⟩ (by kernel_rfl) rfl
    (fun f fn hf hfn => by
      obtain rfl : f = 3 := Option.some.inj ((show Tryd.prog.funcNamed "inkhorn/inkhornlaw09.BreParse" = some 3 by kernel_rfl).symm.trans hf) |>.symm
      obtain rfl : fn = Tryd.f3 := (Option.some.inj (Tryd.func3.symm.trans hfn)).symm
      exact ⟨by kernel_rfl, fun j t ht => by
        rw [Tryd.params3] at ht
        have hm : t ∈ [9] := by simpa using Array.mem_of_getElem? ht
        have hall : ([9].all fun u => !Tryd.prog.wantsStandIn u) = true := by kernel_rfl
        exact (show Tryd.prog.wantsStandIn t = false by simpa using List.all_eq_true.1 hall t hm)⟩)
    (by kernel_rfl)

#print axioms breParse_holds
end Go.Proofs.YtmobcljinfoacaaDoor
