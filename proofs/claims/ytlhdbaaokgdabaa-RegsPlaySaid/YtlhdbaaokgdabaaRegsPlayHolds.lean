/-
  The law RegsPlay, said of its row.
  RegsPlay returns true for every list of acts and every two registers' texts; its arguments read as they did.
-/
import Derived.Test.YtlhdbaaokgdabaaRegsPlay
import Derived.Test.YtlhdbaaokgdabaaActs
import Derived.Test.YtlhdbaaokgdabaaLaw
import Derived.Test.YtlhdbaaokgdabaaOpen
namespace Go.Proofs.Ytlhdbaaokgdabaa
open Go.ChangeShapes Go.WideShapes Go.ChangeAt Go.RowKit Go.Joins Go.ChangeMaps

set_option maxRecDepth 100000 in
theorem regsPlay_lifted (os : Os) (started : os.Started) (H : Type) (enc : TypeId × Value → H) :
    ReturnsInHanded {} Try.checked os 3 .any (Rows.regsPlaySpec.pre6 enc Try.prog Try.f3 Rows.regsPlayRow.domain false) (Rows.regsPlaySpec.post enc Try.prog Try.f3 false true false false) :=
  law_lifted (s := Rows.regsPlaySpec) started (by kernel_rfl) Try.func3 rfl (by kernel_rfl) (by kernel_rfl)
    (fun ds h => by
      rw [show Try.f3.params.size = 3 by kernel_rfl] at h
      match ds, h with
      | [_, _, _], _ => rfl)
    (ChangeSpec.witness6 (enc := enc) (C := Try.checked) false ⟨#[], #[.slice none 0 0, .agg #[.slice none 0 0, .bool false], .agg #[.slice none 0 0, .bool false]], []⟩ 8 (by kernel_rfl) (by kernel_rfl) (by kernel_rfl) (by kernel_rfl))
    (fun W base args ds p hval hA => by
      rw [Try.params3] at hA hval
      obtain ⟨v0, v1, v2, d0, d1, d2, p0, p1, p2, rfl, rfl, rfl, h0, h1, h2⟩ := trodAll_three hA
      obtain ⟨lA, l, lC, rfl, hl⟩ := open_acts (hval 0 22 v0 rfl rfl) h0
      obtain ⟨aA, aC, a, rfl, ha⟩ := open_reg (hval 1 25 v1 rfl rfl) h1
      obtain ⟨bA, bC, b, rfl, hb⟩ := open_reg (hval 2 25 v2 rfl rfl) h2
      exact regsPlay_law lA l lC aA aC a bA bC b W hl ha hb)

theorem regsPlay_holds : Rows.RegsPlaySaid :=
  OpenClaim.holds_of_wide 3 Try.f3 rfl rfl rfl rfl rfl rfl rfl ⟨rfl, rfl, rfl, rfl, rfl⟩ rfl rfl rfl rfl rfl (by kernel_rfl) Try.func3 (by kernel_rfl)
    (of_decide_eq_true (by kernel_rfl)) (by unfold Func.isWrapper; first | (rw [if_pos (by decide +kernel)]; kernel_rfl) | (rw [if_neg (by decide +kernel)]; exact ⟨rfl, rfl⟩))
    (fun os started H enc _ => regsPlay_lifted os started H enc)

#print axioms regsPlay_holds
end Go.Proofs.Ytlhdbaaokgdabaa
