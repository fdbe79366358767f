/-
  The law PiecesMany, said of its row.
  PiecesMany returns true for every list of strings and every list of cuts; its arguments read as they did.
-/
import Derived.Test.YtblcggmbaofflaaPiecesMany
import Derived.Test.YtblcggmbaofflaaCuts
import Derived.Test.YtblcggmbaofflaaLaw
import Derived.Test.YtblcggmbaofflaaOpen
namespace Go.Proofs.Ytblcggmbaofflaa
open Go.ChangeShapes Go.WideShapes Go.ChangeAt Go.RowKit Go.Joins Go.ChangeMaps

set_option maxRecDepth 100000 in
theorem piecesMany_lifted (os : Os) (started : os.Started) (H : Type) (enc : TypeId × Value → H) :
    ReturnsInHanded {} Try.checked os 8 .any (Rows.piecesManySpec.pre6 enc Try.prog Try.f8 Rows.piecesManyRow.domain false) (Rows.piecesManySpec.post enc Try.prog Try.f8 false true false false) :=
  law_lifted (s := Rows.piecesManySpec) started (by kernel_rfl) Try.func8 rfl (by kernel_rfl) (by kernel_rfl)
    (fun ds h => by
      rw [show Try.f8.params.size = 2 by kernel_rfl] at h
      match ds, h with
      | [_, _], _ => rfl)
    (ChangeSpec.witness6 (enc := enc) (C := Try.checked) false ⟨#[], #[.slice none 0 0, .slice none 0 0], []⟩ 8 (by kernel_rfl) (by kernel_rfl) (by kernel_rfl) (by kernel_rfl))
    (fun W base args ds p hval hA => by
      rw [Try.params8] at hA hval
      obtain ⟨v0, v1, d0, d1, p0, p1, rfl, rfl, rfl, h0, h1⟩ := trodAll_two hA
      obtain ⟨dA, dC, d, rfl, hd⟩ := open_lines (hval 0 22 v0 rfl rfl) h0
      obtain ⟨cA, c, cC, rfl, hc⟩ := open_cuts (hval 1 23 v1 rfl rfl) h1
      exact piecesMany_law dA dC d cA cC c W hd hc)

theorem piecesMany_holds : Rows.PiecesManySaid :=
  OpenClaim.holds_of_wide 8 Try.f8 rfl rfl rfl rfl rfl rfl rfl ⟨rfl, rfl, rfl, rfl, rfl⟩ rfl rfl rfl rfl rfl (by kernel_rfl) Try.func8 (by kernel_rfl)
    (of_decide_eq_true (by kernel_rfl)) (by unfold Func.isWrapper; first | (rw [if_pos (by decide +kernel)]; kernel_rfl) | (rw [if_neg (by decide +kernel)]; exact ⟨rfl, rfl⟩))
    (fun os started H enc _ => piecesMany_lifted os started H enc)

#print axioms piecesMany_holds
end Go.Proofs.Ytblcggmbaofflaa
