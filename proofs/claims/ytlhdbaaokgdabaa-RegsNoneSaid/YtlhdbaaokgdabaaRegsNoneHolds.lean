/-
  The law RegsNone, said of its row.
  RegsNone returns true for every letter and every register's text; its arguments read as they did.
-/
import Derived.Test.YtlhdbaaokgdabaaRegsNone
import Derived.Test.YtlhdbaaokgdabaaActs
import Derived.Test.YtlhdbaaokgdabaaLaw
import Derived.Test.YtlhdbaaokgdabaaOpen
namespace Go.Proofs.Ytlhdbaaokgdabaa
open Go.ChangeShapes Go.WideShapes Go.ChangeAt Go.RowKit Go.Joins Go.ChangeMaps

set_option maxRecDepth 100000 in
theorem regsNone_lifted (os : Os) (started : os.Started) (H : Type) (enc : TypeId × Value → H) :
    ReturnsInHanded {} Try.checked os 5 .any (Rows.regsNoneSpec.pre6 enc Try.prog Try.f5 Rows.regsNoneRow.domain false) (Rows.regsNoneSpec.post enc Try.prog Try.f5 false true false false) :=
  law_lifted (s := Rows.regsNoneSpec) started (by kernel_rfl) Try.func5 rfl (by kernel_rfl) (by kernel_rfl)
    (fun ds h => by
      rw [show Try.f5.params.size = 2 by kernel_rfl] at h
      match ds, h with
      | [_, _], _ => rfl)
    (ChangeSpec.witness6 (enc := enc) (C := Try.checked) false ⟨#[], #[.int .u8 0, .agg #[.slice none 0 0, .bool false]], []⟩ 8 (by kernel_rfl) (by kernel_rfl) (by kernel_rfl) (by kernel_rfl))
    (fun W base args ds p hval hA => by
      rw [Try.params5] at hA hval
      obtain ⟨v0, v1, d0, d1, p0, p1, rfl, rfl, rfl, h0, h1⟩ := trodAll_two hA
      obtain ⟨c, rfl, -, -, hc⟩ := open_int Try.underlying5 (hval 0 5 v0 rfl rfl) h0
      obtain ⟨xA, xC, x, rfl, hx⟩ := open_reg (hval 1 25 v1 rfl rfl) h1
      exact regsNone_int c (u8_wf hc) xA xC x W hx)

theorem regsNone_holds : Rows.RegsNoneSaid :=
  OpenClaim.holds_of_wide 5 Try.f5 rfl rfl rfl rfl rfl rfl rfl ⟨rfl, rfl, rfl, rfl, rfl⟩ rfl rfl rfl rfl rfl (by kernel_rfl) Try.func5 (by kernel_rfl)
    (of_decide_eq_true (by kernel_rfl)) (by unfold Func.isWrapper; first | (rw [if_pos (by decide +kernel)]; kernel_rfl) | (rw [if_neg (by decide +kernel)]; exact ⟨rfl, rfl⟩))
    (fun os started H enc _ => regsNone_lifted os started H enc)

#print axioms regsNone_holds
end Go.Proofs.Ytlhdbaaokgdabaa
