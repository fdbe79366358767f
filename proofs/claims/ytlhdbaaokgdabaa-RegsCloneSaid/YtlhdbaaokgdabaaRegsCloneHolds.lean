/-
  The law RegsClone, said of its row.
  RegsClone returns true for every two lists of acts; its arguments read as they did.
-/
import Derived.Test.YtlhdbaaokgdabaaRegsClone
import Derived.Test.YtlhdbaaokgdabaaActs
import Derived.Test.YtlhdbaaokgdabaaLaw
import Derived.Test.YtlhdbaaokgdabaaOpen
namespace Go.Proofs.Ytlhdbaaokgdabaa
open Go.ChangeShapes Go.WideShapes Go.ChangeAt Go.RowKit Go.Joins Go.ChangeMaps

set_option maxRecDepth 100000 in
theorem regsClone_lifted (os : Os) (started : os.Started) (H : Type) (enc : TypeId × Value → H) :
    ReturnsInHanded {} Try.checked os 6 .any (Rows.regsCloneSpec.pre6 enc Try.prog Try.f6 Rows.regsCloneRow.domain false) (Rows.regsCloneSpec.post enc Try.prog Try.f6 false true false false) :=
  law_lifted (s := Rows.regsCloneSpec) started (by kernel_rfl) Try.func6 rfl (by kernel_rfl) (by kernel_rfl)
    (fun ds h => by
      rw [show Try.f6.params.size = 2 by kernel_rfl] at h
      match ds, h with
      | [_, _], _ => rfl)
    (ChangeSpec.witness6 (enc := enc) (C := Try.checked) false ⟨#[], #[.slice none 0 0, .slice none 0 0], []⟩ 8 (by kernel_rfl) (by kernel_rfl) (by kernel_rfl) (by kernel_rfl))
    (fun W base args ds p hval hA => by
      rw [Try.params6] at hA hval
      obtain ⟨v0, v1, d0, d1, p0, p1, rfl, rfl, rfl, h0, h1⟩ := trodAll_two hA
      obtain ⟨lA, l, lC, rfl, hl⟩ := open_acts (hval 0 22 v0 rfl rfl) h0
      obtain ⟨mA, m, mC, rfl, hm⟩ := open_acts (hval 1 22 v1 rfl rfl) h1
      exact regsClone_law lA l lC mA m mC W hl hm)

theorem regsClone_holds : Rows.RegsCloneSaid :=
  OpenClaim.holds_of_wide 6 Try.f6 rfl rfl rfl rfl rfl rfl rfl ⟨rfl, rfl, rfl, rfl, rfl⟩ rfl rfl rfl rfl rfl (by kernel_rfl) Try.func6 (by kernel_rfl)
    (of_decide_eq_true (by kernel_rfl)) (by unfold Func.isWrapper; first | (rw [if_pos (by decide +kernel)]; kernel_rfl) | (rw [if_neg (by decide +kernel)]; exact ⟨rfl, rfl⟩))
    (fun os started H enc _ => regsClone_lifted os started H enc)

#print axioms regsClone_holds
end Go.Proofs.Ytlhdbaaokgdabaa
