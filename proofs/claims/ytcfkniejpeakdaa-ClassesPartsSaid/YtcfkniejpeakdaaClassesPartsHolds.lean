/-
  The law ClassesParts, said of its row.
  ClassesParts returns true for every byte; its argument reads as it did.
-/
import Derived.Test.YtcfkniejpeakdaaClsParts
import Derived.Test.YtcfkniejpeakdaaLawS
import Derived.Test.YtcfkniejpeakdaaOpen
namespace Go.Proofs.Ytcfkniejpeakdaa
open Go.ChangeShapes Go.WideShapes Go.ChangeAt Go.RowKit Go.Joins Go.ChangeMaps

set_option maxRecDepth 100000 in
theorem classesParts_lifted (os : Os) (started : os.Started) (H : Type) (enc : TypeId × Value → H) :
    ReturnsInHanded {} Try.checked os 8 .any (Rows.classesPartsSpec.pre6 enc Try.prog Try.f8 Rows.classesPartsRow.domain false) (Rows.classesPartsSpec.post enc Try.prog Try.f8 false true false false) :=
  law_lifted_shaped (s := Rows.classesPartsSpec) started (by kernel_rfl) Try.func8 rfl (by kernel_rfl) (by kernel_rfl)
    (fun ds h => by
      rw [show Try.f8.params.size = 1 by kernel_rfl] at h
      match ds, h with
      | [_], _ => rfl)
    (ChangeSpec.witness6 (enc := enc) (C := Try.checked) false ⟨#[], #[.int .u8 0], []⟩ 8 (by kernel_rfl) (by kernel_rfl) (by kernel_rfl) (by kernel_rfl))
    (fun W base args ds p hval hA hsh => by
      rw [Try.params8] at hA hval
      obtain ⟨v0, d0, rfl, rfl, h0⟩ := trodAll_one hA
      obtain ⟨c, rfl, -, -, hc⟩ := open_int Try.underlying5 (hval 0 5 v0 rfl rfl) h0
      exact classesParts_law c W (sane_of_shaped hsh) (u8_wf hc))

theorem classesParts_holds : Rows.ClassesPartsSaid :=
  OpenClaim.holds_of_wide 8 Try.f8 rfl rfl rfl rfl rfl rfl rfl ⟨rfl, rfl, rfl, rfl, rfl⟩ rfl rfl rfl rfl rfl (by kernel_rfl) Try.func8 (by kernel_rfl)
    (of_decide_eq_true (by kernel_rfl)) (by unfold Func.isWrapper; first | (rw [if_pos (by decide +kernel)]; kernel_rfl) | (rw [if_neg (by decide +kernel)]; exact ⟨rfl, rfl⟩))
    (fun os started H enc _ => classesParts_lifted os started H enc)

#print axioms classesParts_holds
end Go.Proofs.Ytcfkniejpeakdaa
