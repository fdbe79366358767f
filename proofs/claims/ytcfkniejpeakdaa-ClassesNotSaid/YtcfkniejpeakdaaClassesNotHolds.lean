/-
  The law ClassesNot, said of its row.
  ClassesNot returns true for every string; its argument reads as it did.
-/
import Derived.Test.YtcfkniejpeakdaaClsNot
import Derived.Test.YtcfkniejpeakdaaLawS
import Derived.Test.YtcfkniejpeakdaaOpen
namespace Go.Proofs.Ytcfkniejpeakdaa
open Go.ChangeShapes Go.WideShapes Go.ChangeAt Go.RowKit Go.Joins Go.ChangeMaps

set_option maxRecDepth 100000 in
theorem classesNot_lifted (os : Os) (started : os.Started) (H : Type) (enc : TypeId × Value → H) :
    ReturnsInHanded {} Try.checked os 6 .any (Rows.classesNotSpec.pre6 enc Try.prog Try.f6 Rows.classesNotRow.domain false) (Rows.classesNotSpec.post enc Try.prog Try.f6 false true false false) :=
  law_lifted_shaped (s := Rows.classesNotSpec) started (by kernel_rfl) Try.func6 rfl (by kernel_rfl) (by kernel_rfl)
    (fun ds h => by
      rw [show Try.f6.params.size = 1 by kernel_rfl] at h
      match ds, h with
      | [_], _ => rfl)
    (ChangeSpec.witness6 (enc := enc) (C := Try.checked) false ⟨#[], #[.string ⟨#[]⟩], []⟩ 8 (by kernel_rfl) (by kernel_rfl) (by kernel_rfl) (by kernel_rfl))
    (fun W base args ds p hval hA hsh => by
      rw [Try.params6] at hA hval
      obtain ⟨v0, d0, rfl, rfl, h0⟩ := trodAll_one hA
      obtain ⟨s, rfl, -, -, hs⟩ := open_string Try.underlying9 (hval 0 9 v0 rfl rfl) h0
      exact (by have := classesNot_law s.data.toList W (sane_of_shaped hsh); rwa [tx_of] at this))

theorem classesNot_holds : Rows.ClassesNotSaid :=
  OpenClaim.holds_of_wide 6 Try.f6 rfl rfl rfl rfl rfl rfl rfl ⟨rfl, rfl, rfl, rfl, rfl⟩ rfl rfl rfl rfl rfl (by kernel_rfl) Try.func6 (by kernel_rfl)
    (of_decide_eq_true (by kernel_rfl)) (by unfold Func.isWrapper; first | (rw [if_pos (by decide +kernel)]; kernel_rfl) | (rw [if_neg (by decide +kernel)]; exact ⟨rfl, rfl⟩))
    (fun os started H enc _ => classesNot_lifted os started H enc)

#print axioms classesNot_holds
end Go.Proofs.Ytcfkniejpeakdaa
