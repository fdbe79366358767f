/-
  The law LinesJoin, said of its row.
  LinesJoin returns true for every list of strings; its argument reads as it did.
-/
import Derived.Test.YteabpdahhjfaiaaLinesOpen
import Derived.Test.YteabpdahhjfaiaaLaw
import Derived.Test.YteabpdahhjfaiaaOpen
namespace Go.Proofs.Yteabpdahhjfaiaa
open Go.ChangeShapes Go.WideShapes Go.ChangeAt Go.RowKit Go.Joins Go.ChangeMaps

set_option maxRecDepth 100000 in
theorem linesJoin_lifted (os : Os) (started : os.Started) (H : Type) (enc : TypeId × Value → H) :
    ReturnsInHanded {} Try.checked os 6 .any (Rows.linesJoinSpec.pre6 enc Try.prog Try.f6 Rows.linesJoinRow.domain false) (Rows.linesJoinSpec.post enc Try.prog Try.f6 false true false false) :=
  law_lifted (s := Rows.linesJoinSpec) started (by kernel_rfl) Try.func6 rfl (by kernel_rfl) (by kernel_rfl)
    (fun ds h => by
      rw [show Try.f6.params.size = 1 by kernel_rfl] at h
      match ds, h with
      | [_], _ => rfl)
    (ChangeSpec.witness6 (enc := enc) (C := Try.checked) false ⟨#[], #[.slice none 0 0], []⟩ 8 (by kernel_rfl) (by kernel_rfl) (by kernel_rfl) (by kernel_rfl))
    (fun W base args ds p hval hA => by
      rw [Try.params6] at hA hval
      obtain ⟨v0, d0, rfl, rfl, h0⟩ := trodAll_one hA
      obtain ⟨aA, aC, a, rfl, ha⟩ := open_lines (hval 0 22 v0 rfl rfl) h0
      exact linesJoin_law aA aC a W ha)

theorem linesJoin_holds : Rows.LinesJoinSaid :=
  OpenClaim.holds_of_wide 6 Try.f6 rfl rfl rfl rfl rfl rfl rfl ⟨rfl, rfl, rfl, rfl, rfl⟩ rfl rfl rfl rfl rfl (by kernel_rfl) Try.func6 (by kernel_rfl)
    (of_decide_eq_true (by kernel_rfl)) (by unfold Func.isWrapper; first | (rw [if_pos (by decide +kernel)]; kernel_rfl) | (rw [if_neg (by decide +kernel)]; exact ⟨rfl, rfl⟩))
    (fun os started H enc _ => linesJoin_lifted os started H enc)

#print axioms linesJoin_holds
end Go.Proofs.Yteabpdahhjfaiaa
