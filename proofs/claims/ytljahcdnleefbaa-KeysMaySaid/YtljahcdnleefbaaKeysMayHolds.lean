/-
  The law KeysMay, said of its row.
  KeysMay returns true for every text; its argument reads as it did.
-/
import Derived.Test.YtljahcdnleefbaaKeysMay
import Derived.Test.YtljahcdnleefbaaLaw
import Derived.Test.YtljahcdnleefbaaOpen
namespace Go.Proofs.Ytljahcdnleefbaa
open Go.ChangeShapes Go.WideShapes Go.ChangeAt Go.RowKit Go.Joins Go.ChangeMaps

set_option maxRecDepth 100000 in
theorem keysMay_lifted (os : Os) (started : os.Started) (H : Type) (enc : TypeId × Value → H) :
    ReturnsInHanded {} Try.checked os 5 .any (Rows.keysMaySpec.pre6 enc Try.prog Try.f5 Rows.keysMayRow.domain false) (Rows.keysMaySpec.post enc Try.prog Try.f5 false true false false) :=
  law_lifted (s := Rows.keysMaySpec) started (by kernel_rfl) Try.func5 rfl (by kernel_rfl) (by kernel_rfl)
    (fun ds h => by
      rw [show Try.f5.params.size = 1 by kernel_rfl] at h
      match ds, h with
      | [_], _ => rfl)
    (ChangeSpec.witness6 (enc := enc) (C := Try.checked) false ⟨#[], #[.string ⟨#[]⟩], []⟩ 8 (by kernel_rfl) (by kernel_rfl) (by kernel_rfl) (by kernel_rfl))
    (fun W base args ds p hval hA => by
      rw [Try.params5] at hA hval
      obtain ⟨v0, d0, rfl, rfl, h0⟩ := trodAll_one hA
      obtain ⟨s, rfl, -, -, hs⟩ := open_string Try.underlying9 (hval 0 9 v0 rfl rfl) h0
      exact keysMay_any s W)

theorem keysMay_holds : Rows.KeysMaySaid :=
  OpenClaim.holds_of_wide 5 Try.f5 rfl rfl rfl rfl rfl rfl rfl ⟨rfl, rfl, rfl, rfl, rfl⟩ rfl rfl rfl rfl rfl (by kernel_rfl) Try.func5 (by kernel_rfl)
    (of_decide_eq_true (by kernel_rfl)) (by unfold Func.isWrapper; first | (rw [if_pos (by decide +kernel)]; kernel_rfl) | (rw [if_neg (by decide +kernel)]; exact ⟨rfl, rfl⟩))
    (fun os started H enc _ => keysMay_lifted os started H enc)

#print axioms keysMay_holds
end Go.Proofs.Ytljahcdnleefbaa
