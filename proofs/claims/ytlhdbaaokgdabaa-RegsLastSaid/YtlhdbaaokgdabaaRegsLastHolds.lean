/-
  The law RegsLast, said of its row.
  RegsLast returns true for every list of acts; its arguments read as they did.
-/
import Derived.Test.YtlhdbaaokgdabaaRegsLast
import Derived.Test.YtlhdbaaokgdabaaActs
import Derived.Test.YtlhdbaaokgdabaaLaw
import Derived.Test.YtlhdbaaokgdabaaOpen
namespace Go.Proofs.Ytlhdbaaokgdabaa
open Go.ChangeShapes Go.WideShapes Go.ChangeAt Go.RowKit Go.Joins Go.ChangeMaps

set_option maxRecDepth 100000 in
theorem regsLast_lifted (os : Os) (started : os.Started) (H : Type) (enc : TypeId × Value → H) :
    ReturnsInHanded {} Try.checked os 4 .any (Rows.regsLastSpec.pre6 enc Try.prog Try.f4 Rows.regsLastRow.domain false) (Rows.regsLastSpec.post enc Try.prog Try.f4 false true false false) :=
  law_lifted (s := Rows.regsLastSpec) started (by kernel_rfl) Try.func4 rfl (by kernel_rfl) (by kernel_rfl)
    (fun ds h => by
      rw [show Try.f4.params.size = 1 by kernel_rfl] at h
      match ds, h with
      | [_], _ => rfl)
    (ChangeSpec.witness6 (enc := enc) (C := Try.checked) false ⟨#[], #[.slice none 0 0], []⟩ 8 (by kernel_rfl) (by kernel_rfl) (by kernel_rfl) (by kernel_rfl))
    (fun W base args ds p hval hA => by
      rw [Try.params4] at hA hval
      obtain ⟨v0, d0, rfl, rfl, h0⟩ := trodAll_one hA
      obtain ⟨lA, l, lC, rfl, hl⟩ := open_acts (hval 0 22 v0 rfl rfl) h0
      exact regsLast_law lA l lC W hl)

theorem regsLast_holds : Rows.RegsLastSaid :=
  OpenClaim.holds_of_wide 4 Try.f4 rfl rfl rfl rfl rfl rfl rfl ⟨rfl, rfl, rfl, rfl, rfl⟩ rfl rfl rfl rfl rfl (by kernel_rfl) Try.func4 (by kernel_rfl)
    (of_decide_eq_true (by kernel_rfl)) (by unfold Func.isWrapper; first | (rw [if_pos (by decide +kernel)]; kernel_rfl) | (rw [if_neg (by decide +kernel)]; exact ⟨rfl, rfl⟩))
    (fun os started H enc _ => regsLast_lifted os started H enc)

#print axioms regsLast_holds
end Go.Proofs.Ytlhdbaaokgdabaa
