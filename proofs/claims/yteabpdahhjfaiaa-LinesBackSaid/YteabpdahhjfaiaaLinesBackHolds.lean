/-
  The law LinesBack, said of its row.
  LinesBack returns true for every list of strings and every text; its arguments read as they did.
-/
import Derived.Test.YteabpdahhjfaiaaLinesOpen
import Derived.Test.YteabpdahhjfaiaaLinesBack
import Derived.Test.YteabpdahhjfaiaaLaw
import Derived.Test.YteabpdahhjfaiaaOpen
namespace Go.Proofs.Yteabpdahhjfaiaa
open Go.ChangeShapes Go.WideShapes Go.ChangeAt Go.RowKit Go.Joins Go.ChangeMaps

set_option maxRecDepth 100000 in
theorem linesBack_lifted (os : Os) (started : os.Started) (H : Type) (enc : TypeId × Value → H) :
    ReturnsInHanded {} Try.checked os 7 .any (Rows.linesBackSpec.pre6 enc Try.prog Try.f7 Rows.linesBackRow.domain false) (Rows.linesBackSpec.post enc Try.prog Try.f7 false true false false) :=
  law_lifted (s := Rows.linesBackSpec) started (by kernel_rfl) Try.func7 rfl (by kernel_rfl) (by kernel_rfl)
    (fun ds h => by
      rw [show Try.f7.params.size = 2 by kernel_rfl] at h
      match ds, h with
      | [_, _], _ => rfl)
    (ChangeSpec.witness6 (enc := enc) (C := Try.checked) false ⟨#[], #[.slice none 0 0, .string ⟨#[]⟩], []⟩ 8 (by kernel_rfl) (by kernel_rfl) (by kernel_rfl) (by kernel_rfl))
    (fun W base args ds p hval hA => by
      rw [Try.params7] at hA hval
      obtain ⟨v0, v1, d0, d1, p0, p1, rfl, rfl, rfl, h0, h1⟩ := trodAll_two hA
      obtain ⟨aA, aC, a, rfl, ha⟩ := open_lines (hval 0 22 v0 rfl rfl) h0
      obtain ⟨s, rfl, -, -, hs⟩ := open_string Try.underlying9 (hval 1 9 v1 rfl rfl) h1
      exact (by rw [← tx_of s]; exact linesBack_law aA aC a s.data.toList (by simp; exact hs) W ha))

theorem linesBack_holds : Rows.LinesBackSaid :=
  OpenClaim.holds_of_wide 7 Try.f7 rfl rfl rfl rfl rfl rfl rfl ⟨rfl, rfl, rfl, rfl, rfl⟩ rfl rfl rfl rfl rfl (by kernel_rfl) Try.func7 (by kernel_rfl)
    (of_decide_eq_true (by kernel_rfl)) (by unfold Func.isWrapper; first | (rw [if_pos (by decide +kernel)]; kernel_rfl) | (rw [if_neg (by decide +kernel)]; exact ⟨rfl, rfl⟩))
    (fun os started H enc _ => linesBack_lifted os started H enc)

#print axioms linesBack_holds
end Go.Proofs.Yteabpdahhjfaiaa
