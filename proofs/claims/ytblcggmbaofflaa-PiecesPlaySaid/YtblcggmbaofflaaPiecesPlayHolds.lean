/-
  The law PiecesPlay, said of its row.
  PiecesPlay returns true for every list of strings and every list of cuts; its arguments read as they did.
-/
import Derived.Test.YtblcggmbaofflaaPiecesPlayLaw
import Derived.Test.YtblcggmbaofflaaCuts
import Derived.Test.YtblcggmbaofflaaLaw
import Derived.Test.YtblcggmbaofflaaOpen
namespace Go.Proofs.Ytblcggmbaofflaa
open Go.ChangeShapes Go.WideShapes Go.ChangeAt Go.RowKit Go.Joins Go.ChangeMaps

set_option maxRecDepth 100000 in
theorem piecesPlay_lifted (os : Os) (started : os.Started) (H : Type) (enc : TypeId × Value → H) :
    ReturnsInHanded {} Try.checked os 3 .any (Rows.piecesPlaySpec.pre6 enc Try.prog Try.f3 Rows.piecesPlayRow.domain false) (Rows.piecesPlaySpec.post enc Try.prog Try.f3 false true false false) :=
  law_lifted (s := Rows.piecesPlaySpec) started (by kernel_rfl) Try.func3 rfl (by kernel_rfl) (by kernel_rfl)
    (fun ds h => by
      rw [show Try.f3.params.size = 2 by kernel_rfl] at h
      match ds, h with
      | [_, _], _ => rfl)
    (ChangeSpec.witness6 (enc := enc) (C := Try.checked) false ⟨#[], #[.slice none 0 0, .slice none 0 0], []⟩ 8 (by kernel_rfl) (by kernel_rfl) (by kernel_rfl) (by kernel_rfl))
    (fun W base args ds p hval hA => by
      rw [Try.params3] at hA hval
      obtain ⟨v0, v1, d0, d1, p0, p1, rfl, rfl, rfl, h0, h1⟩ := trodAll_two hA
      obtain ⟨dA, dC, d, rfl, hd⟩ := open_lines (hval 0 22 v0 rfl rfl) h0
      obtain ⟨cA, c, cC, rfl, hc⟩ := open_cuts (hval 1 23 v1 rfl rfl) h1
      exact piecesPlay_law dA dC d cA cC c W hd hc)

theorem piecesPlay_holds : Rows.PiecesPlaySaid :=
  OpenClaim.holds_of_wide 3 Try.f3 rfl rfl rfl rfl rfl rfl rfl ⟨rfl, rfl, rfl, rfl, rfl⟩ rfl rfl rfl rfl rfl (by kernel_rfl) Try.func3 (by kernel_rfl)
    (of_decide_eq_true (by kernel_rfl)) (by unfold Func.isWrapper; first | (rw [if_pos (by decide +kernel)]; kernel_rfl) | (rw [if_neg (by decide +kernel)]; exact ⟨rfl, rfl⟩))
    (fun os started H enc _ => piecesPlay_lifted os started H enc)

#print axioms piecesPlay_holds
end Go.Proofs.Ytblcggmbaofflaa
