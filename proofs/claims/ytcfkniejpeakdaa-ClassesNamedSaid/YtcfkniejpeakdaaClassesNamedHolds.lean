/-
  The law ClassesNamed, said of its row.
  ClassesNamed returns true for every string; its argument reads as it did.
-/
import Derived.Test.YtcfkniejpeakdaaClsLaws
import Derived.Test.YtcfkniejpeakdaaLawS
import Derived.Test.YtcfkniejpeakdaaOpen
namespace Go.Proofs.Ytcfkniejpeakdaa
open Go.ChangeShapes Go.WideShapes Go.ChangeAt Go.RowKit Go.Joins Go.ChangeMaps

set_option maxRecDepth 100000 in
theorem classesNamed_lifted (os : Os) (started : os.Started) (H : Type) (enc : TypeId × Value → H) :
    ReturnsInHanded {} Try.checked os 4 .any (Rows.classesNamedSpec.pre6 enc Try.prog Try.f4 Rows.classesNamedRow.domain false) (Rows.classesNamedSpec.post enc Try.prog Try.f4 false true false false) :=
  law_lifted_shaped (s := Rows.classesNamedSpec) started (by kernel_rfl) Try.func4 rfl (by kernel_rfl) (by kernel_rfl)
    (fun ds h => by
      rw [show Try.f4.params.size = 1 by kernel_rfl] at h
      match ds, h with
      | [_], _ => rfl)
    (ChangeSpec.witness6 (enc := enc) (C := Try.checked) false ⟨#[], #[.string ⟨#[]⟩], []⟩ 8 (by kernel_rfl) (by kernel_rfl) (by kernel_rfl) (by kernel_rfl))
    (fun W base args ds p hval hA hsh => by
      rw [Try.params4] at hA hval
      obtain ⟨v0, d0, rfl, rfl, h0⟩ := trodAll_one hA
      obtain ⟨k, rfl, -, -, hk⟩ := open_string Try.underlying9 (hval 0 9 v0 rfl rfl) h0
      exact classesNamed_law k W (sane_of_shaped hsh))

theorem classesNamed_holds : Rows.ClassesNamedSaid :=
  OpenClaim.holds_of_wide 4 Try.f4 rfl rfl rfl rfl rfl rfl rfl ⟨rfl, rfl, rfl, rfl, rfl⟩ rfl rfl rfl rfl rfl (by kernel_rfl) Try.func4 (by kernel_rfl)
    (of_decide_eq_true (by kernel_rfl)) (by unfold Func.isWrapper; first | (rw [if_pos (by decide +kernel)]; kernel_rfl) | (rw [if_neg (by decide +kernel)]; exact ⟨rfl, rfl⟩))
    (fun os started H enc _ => classesNamed_lifted os started H enc)

#print axioms classesNamed_holds
end Go.Proofs.Ytcfkniejpeakdaa
