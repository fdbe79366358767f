/-
  The law LinesSame, said of its row.
  LinesSame returns true for every two lists of strings; its arguments read as they did.
-/
import Derived.Test.YteabpdahhjfaiaaLinesOpen
import Derived.Test.YteabpdahhjfaiaaLaw
import Derived.Test.YteabpdahhjfaiaaOpen
namespace Go.Proofs.Yteabpdahhjfaiaa
open Go.ChangeShapes Go.WideShapes Go.ChangeAt Go.RowKit Go.Joins Go.ChangeMaps

set_option maxRecDepth 100000 in
theorem linesSame_lifted (os : Os) (started : os.Started) (H : Type) (enc : TypeId × Value → H) :
    ReturnsInHanded {} Try.checked os 4 .any (Rows.linesSameSpec.pre6 enc Try.prog Try.f4 Rows.linesSameRow.domain false) (Rows.linesSameSpec.post enc Try.prog Try.f4 false true false false) :=
  law_lifted (s := Rows.linesSameSpec) started (by kernel_rfl) Try.func4 rfl (by kernel_rfl) (by kernel_rfl)
    (fun ds h => by
      rw [show Try.f4.params.size = 2 by kernel_rfl] at h
      match ds, h with
      | [_, _], _ => rfl)
    (ChangeSpec.witness6 (enc := enc) (C := Try.checked) false ⟨#[], #[.slice none 0 0, .slice none 0 0], []⟩ 8 (by kernel_rfl) (by kernel_rfl) (by kernel_rfl) (by kernel_rfl))
    (fun W base args ds p hval hA => by
      rw [Try.params4] at hA hval
      obtain ⟨v0, v1, d0, d1, p0, p1, rfl, rfl, rfl, h0, h1⟩ := trodAll_two hA
      obtain ⟨aA, aC, a, rfl, ha⟩ := open_lines (hval 0 22 v0 rfl rfl) h0
      obtain ⟨bA, bC, b, rfl, hb⟩ := open_lines (hval 1 22 v1 rfl rfl) h1
      exact linesSame_law aA bA aC bC a b W ha hb)

theorem linesSame_holds : Rows.LinesSameSaid :=
  OpenClaim.holds_of_wide 4 Try.f4 rfl rfl rfl rfl rfl rfl rfl ⟨rfl, rfl, rfl, rfl, rfl⟩ rfl rfl rfl rfl rfl (by kernel_rfl) Try.func4 (by kernel_rfl)
    (of_decide_eq_true (by kernel_rfl)) (by unfold Func.isWrapper; first | (rw [if_pos (by decide +kernel)]; kernel_rfl) | (rw [if_neg (by decide +kernel)]; exact ⟨rfl, rfl⟩))
    (fun os started H enc _ => linesSame_lifted os started H enc)

#print axioms linesSame_holds
end Go.Proofs.Yteabpdahhjfaiaa
