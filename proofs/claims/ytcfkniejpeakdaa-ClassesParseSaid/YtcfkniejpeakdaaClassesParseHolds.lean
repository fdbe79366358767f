/-
  The law ClassesParse, said of its row.
  ClassesParse returns true for every string and every number; its arguments read as they did.
-/
import Derived.Test.YtcfkniejpeakdaaClsLaws
import Derived.Test.YtcfkniejpeakdaaLawS
import Derived.Test.YtcfkniejpeakdaaOpen
namespace Go.Proofs.Ytcfkniejpeakdaa
open Go.ChangeShapes Go.WideShapes Go.ChangeAt Go.RowKit Go.Joins Go.ChangeMaps

set_option maxRecDepth 100000 in
theorem classesParse_lifted (os : Os) (started : os.Started) (H : Type) (enc : TypeId × Value → H) :
    ReturnsInHanded {} Try.checked os 3 .any (Rows.classesParseSpec.pre6 enc Try.prog Try.f3 Rows.classesParseRow.domain false) (Rows.classesParseSpec.post enc Try.prog Try.f3 false true false false) :=
  law_lifted_shaped (s := Rows.classesParseSpec) started (by kernel_rfl) Try.func3 rfl (by kernel_rfl) (by kernel_rfl)
    (fun ds h => by
      rw [show Try.f3.params.size = 2 by kernel_rfl] at h
      match ds, h with
      | [_, _], _ => rfl)
    (ChangeSpec.witness6 (enc := enc) (C := Try.checked) false ⟨#[], #[.string ⟨#[]⟩, .int .i64 0], []⟩ 8 (by kernel_rfl) (by kernel_rfl) (by kernel_rfl) (by kernel_rfl))
    (fun W base args ds p hval hA hsh => by
      rw [Try.params3] at hA hval
      obtain ⟨v0, v1, d0, d1, p0, p1, rfl, rfl, rfl, h0, h1⟩ := trodAll_two hA
      obtain ⟨s, rfl, -, -, hs⟩ := open_string Try.underlying9 (hval 0 9 v0 rfl rfl) h0
      obtain ⟨at_, rfl, -, -, hat_⟩ := open_int Try.underlying3 (hval 1 3 v1 rfl rfl) h1
      exact (by have := classesParse_law s.data.toList at_ W (sane_of_shaped hsh) (i64_wf hat_); rwa [tx_of] at this))

theorem classesParse_holds : Rows.ClassesParseSaid :=
  OpenClaim.holds_of_wide 3 Try.f3 rfl rfl rfl rfl rfl rfl rfl ⟨rfl, rfl, rfl, rfl, rfl⟩ rfl rfl rfl rfl rfl (by kernel_rfl) Try.func3 (by kernel_rfl)
    (of_decide_eq_true (by kernel_rfl)) (by unfold Func.isWrapper; first | (rw [if_pos (by decide +kernel)]; kernel_rfl) | (rw [if_neg (by decide +kernel)]; exact ⟨rfl, rfl⟩))
    (fun os started H enc _ => classesParse_lifted os started H enc)

#print axioms classesParse_holds
end Go.Proofs.Ytcfkniejpeakdaa
