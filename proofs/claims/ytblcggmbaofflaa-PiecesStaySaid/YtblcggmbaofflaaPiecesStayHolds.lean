/-
  The law PiecesStay, said of its row.
  PiecesStay returns true for every list of strings, every list of cuts and every list of bytes; its arguments read as they did.
-/
import Derived.Test.YtblcggmbaofflaaPiecesStay
import Derived.Test.YtblcggmbaofflaaCuts
import Derived.Test.YtblcggmbaofflaaOpenBytes
import Derived.Test.YtblcggmbaofflaaLaw
import Derived.Test.YtblcggmbaofflaaOpen
namespace Go.Proofs.Ytblcggmbaofflaa
open Go.ChangeShapes Go.WideShapes Go.ChangeAt Go.RowKit Go.Joins Go.ChangeMaps

set_option maxRecDepth 100000 in
theorem piecesStay_lifted (os : Os) (started : os.Started) (H : Type) (enc : TypeId × Value → H) :
    ReturnsInHanded {} Try.checked os 6 .any (Rows.piecesStaySpec.pre6 enc Try.prog Try.f6 Rows.piecesStayRow.domain false) (Rows.piecesStaySpec.post enc Try.prog Try.f6 false true false false) :=
  law_lifted (s := Rows.piecesStaySpec) started (by kernel_rfl) Try.func6 rfl (by kernel_rfl) (by kernel_rfl)
    (fun ds h => by
      rw [show Try.f6.params.size = 3 by kernel_rfl] at h
      match ds, h with
      | [_, _, _], _ => rfl)
    (ChangeSpec.witness6 (enc := enc) (C := Try.checked) false ⟨#[], #[.slice none 0 0, .slice none 0 0, .slice none 0 0], []⟩ 8 (by kernel_rfl) (by kernel_rfl) (by kernel_rfl) (by kernel_rfl))
    (fun W base args ds p hval hA => by
      rw [Try.params6] at hA hval
      obtain ⟨v0, v1, v2, d0, d1, d2, p0, p1, p2, rfl, rfl, rfl, h0, h1, h2⟩ := trodAll_three hA
      obtain ⟨dA, dC, d, rfl, hd⟩ := open_lines (hval 0 22 v0 rfl rfl) h0
      obtain ⟨cA, c, cC, rfl, hc⟩ := open_cuts (hval 1 23 v1 rfl rfl) h1
      obtain ⟨oA, o, oC, rfl, ho⟩ := open_bytes (hval 2 55 v2 rfl rfl) h2
      exact piecesStay_law dA dC d cA cC c oA oC o W hd hc ho)

theorem piecesStay_holds : Rows.PiecesStaySaid :=
  OpenClaim.holds_of_wide 6 Try.f6 rfl rfl rfl rfl rfl rfl rfl ⟨rfl, rfl, rfl, rfl, rfl⟩ rfl rfl rfl rfl rfl (by kernel_rfl) Try.func6 (by kernel_rfl)
    (of_decide_eq_true (by kernel_rfl)) (by unfold Func.isWrapper; first | (rw [if_pos (by decide +kernel)]; kernel_rfl) | (rw [if_neg (by decide +kernel)]; exact ⟨rfl, rfl⟩))
    (fun os started H enc _ => piecesStay_lifted os started H enc)

#print axioms piecesStay_holds
end Go.Proofs.Ytblcggmbaofflaa
