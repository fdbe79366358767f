/-
  The law PiecesBack, said of its row.
  PiecesBack returns true for every list of strings and every cut; its arguments read as they did.
-/
import Derived.Test.YtblcggmbaofflaaPiecesBackLaw
import Derived.Test.YtblcggmbaofflaaCuts
import Derived.Test.YtblcggmbaofflaaLaw
import Derived.Test.YtblcggmbaofflaaOpen
namespace Go.Proofs.Ytblcggmbaofflaa
open Go.ChangeShapes Go.WideShapes Go.ChangeAt Go.RowKit Go.Joins Go.ChangeMaps

set_option maxRecDepth 100000 in
theorem piecesBack_lifted (os : Os) (started : os.Started) (H : Type) (enc : TypeId × Value → H) :
    ReturnsInHanded {} Try.checked os 7 .any (Rows.piecesBackSpec.pre6 enc Try.prog Try.f7 Rows.piecesBackRow.domain false) (Rows.piecesBackSpec.post enc Try.prog Try.f7 false true false false) :=
  law_lifted (s := Rows.piecesBackSpec) started (by kernel_rfl) Try.func7 rfl (by kernel_rfl) (by kernel_rfl)
    (fun ds h => by
      rw [show Try.f7.params.size = 2 by kernel_rfl] at h
      match ds, h with
      | [_, _], _ => rfl)
    (ChangeSpec.witness6 (enc := enc) (C := Try.checked) false ⟨#[], #[.slice none 0 0, .agg #[.int .i64 0, .int .i64 0, .slice none 0 0]], []⟩ 8 (by kernel_rfl) (by kernel_rfl) (by kernel_rfl) (by kernel_rfl))
    (fun W base args ds p hval hA => by
      rw [Try.params7] at hA hval
      obtain ⟨v0, v1, d0, d1, p0, p1, rfl, rfl, rfl, h0, h1⟩ := trodAll_two hA
      obtain ⟨dA, dC, d, rfl, hd⟩ := open_lines (hval 0 22 v0 rfl rfl) h0
      obtain ⟨c, rfl, hc⟩ := open_cut_val (hval 1 34 v1 rfl rfl) h1
      exact piecesBack_law dA dC d c W hd hc)

theorem piecesBack_holds : Rows.PiecesBackSaid :=
  OpenClaim.holds_of_wide 7 Try.f7 rfl rfl rfl rfl rfl rfl rfl ⟨rfl, rfl, rfl, rfl, rfl⟩ rfl rfl rfl rfl rfl (by kernel_rfl) Try.func7 (by kernel_rfl)
    (of_decide_eq_true (by kernel_rfl)) (by unfold Func.isWrapper; first | (rw [if_pos (by decide +kernel)]; kernel_rfl) | (rw [if_neg (by decide +kernel)]; exact ⟨rfl, rfl⟩))
    (fun os started H enc _ => piecesBack_lifted os started H enc)

#print axioms piecesBack_holds
end Go.Proofs.Ytblcggmbaofflaa
