/-
  The law KeysFirst, said of its row.
  KeysFirst returns true for every two texts; its arguments read as they did.
-/
import Derived.Test.YtljahcdnleefbaaKeysFirst
import Derived.Test.YtljahcdnleefbaaLaw
import Derived.Test.YtljahcdnleefbaaOpen
namespace Go.Proofs.Ytljahcdnleefbaa
open Go.ChangeShapes Go.WideShapes Go.ChangeAt Go.RowKit Go.Joins Go.ChangeMaps

set_option maxRecDepth 100000 in
theorem keysFirst_lifted (os : Os) (started : os.Started) (H : Type) (enc : TypeId × Value → H) :
    ReturnsInHanded {} Try.checked os 3 .any (Rows.keysFirstSpec.pre6 enc Try.prog Try.f3 Rows.keysFirstRow.domain false) (Rows.keysFirstSpec.post enc Try.prog Try.f3 false true false false) :=
  law_lifted (s := Rows.keysFirstSpec) started (by kernel_rfl) Try.func3 rfl (by kernel_rfl) (by kernel_rfl)
    (fun ds h => by
      rw [show Try.f3.params.size = 2 by kernel_rfl] at h
      match ds, h with
      | [_, _], _ => rfl)
    (ChangeSpec.witness6 (enc := enc) (C := Try.checked) false ⟨#[], #[.string ⟨#[]⟩, .string ⟨#[]⟩], []⟩ 8 (by kernel_rfl) (by kernel_rfl) (by kernel_rfl) (by kernel_rfl))
    (fun W base args ds p hval hA => by
      rw [Try.params3] at hA hval
      obtain ⟨v0, v1, d0, d1, p0, p1, rfl, rfl, rfl, h0, h1⟩ := trodAll_two hA
      obtain ⟨s, rfl, -, -, hs⟩ := open_string Try.underlying9 (hval 0 9 v0 rfl rfl) h0
      obtain ⟨t, rfl, -, -, ht⟩ := open_string Try.underlying9 (hval 1 9 v1 rfl rfl) h1
      exact keysFirst_any s t W hs ht)

theorem keysFirst_holds : Rows.KeysFirstSaid :=
  OpenClaim.holds_of_wide 3 Try.f3 rfl rfl rfl rfl rfl rfl rfl ⟨rfl, rfl, rfl, rfl, rfl⟩ rfl rfl rfl rfl rfl (by kernel_rfl) Try.func3 (by kernel_rfl)
    (of_decide_eq_true (by kernel_rfl)) (by unfold Func.isWrapper; first | (rw [if_pos (by decide +kernel)]; kernel_rfl) | (rw [if_neg (by decide +kernel)]; exact ⟨rfl, rfl⟩))
    (fun os started H enc _ => keysFirst_lifted os started H enc)

#print axioms keysFirst_holds
end Go.Proofs.Ytljahcdnleefbaa
