/-
  The law PiecesAsk, said of its row.
  PiecesAsk returns true for every list of strings, every list of cuts and every three numbers; its arguments read as they did.
-/
import Derived.Test.YtblcggmbaofflaaPiecesAskLaw
import Derived.Test.YtblcggmbaofflaaCuts
import Derived.Test.YtblcggmbaofflaaOpenNums
import Derived.Test.YtblcggmbaofflaaLaw
import Derived.Test.YtblcggmbaofflaaOpen
namespace Go.Proofs.Ytblcggmbaofflaa
open Go.ChangeShapes Go.WideShapes Go.ChangeAt Go.RowKit Go.Joins Go.ChangeMaps

set_option maxRecDepth 100000 in
theorem piecesAsk_lifted (os : Os) (started : os.Started) (H : Type) (enc : TypeId × Value → H) :
    ReturnsInHanded {} Try.checked os 4 .any (Rows.piecesAskSpec.pre6 enc Try.prog Try.f4 Rows.piecesAskRow.domain false) (Rows.piecesAskSpec.post enc Try.prog Try.f4 false true false false) :=
  law_lifted (s := Rows.piecesAskSpec) started (by kernel_rfl) Try.func4 rfl (by kernel_rfl) (by kernel_rfl)
    (fun ds h => by
      rw [show Try.f4.params.size = 3 by kernel_rfl] at h
      match ds, h with
      | [_, _, _], _ => rfl)
    (ChangeSpec.witness6 (enc := enc) (C := Try.checked) false ⟨#[], #[.slice none 0 0, .slice none 0 0, .agg #[.int .i64 0, .int .i64 0, .int .i64 0]], []⟩ 8 (by kernel_rfl) (by kernel_rfl) (by kernel_rfl) (by kernel_rfl))
    (fun W base args ds p hval hA => by
      rw [Try.params4] at hA hval
      obtain ⟨v0, v1, v2, d0, d1, d2, p0, p1, p2, rfl, rfl, rfl, h0, h1, h2⟩ := trodAll_three hA
      obtain ⟨dA, dC, d, rfl, hd⟩ := open_lines (hval 0 22 v0 rfl rfl) h0
      obtain ⟨cA, c, cC, rfl, hc⟩ := open_cuts (hval 1 23 v1 rfl rfl) h1
      obtain ⟨a0, a1, a2, rfl, q0, q1, q2⟩ := open_nums3 (hval 2 44 v2 rfl rfl) h2
      exact piecesAsk_law dA dC d cA cC c a0 a1 a2 W hd hc q0 q1 q2)

theorem piecesAsk_holds : Rows.PiecesAskSaid :=
  OpenClaim.holds_of_wide 4 Try.f4 rfl rfl rfl rfl rfl rfl rfl ⟨rfl, rfl, rfl, rfl, rfl⟩ rfl rfl rfl rfl rfl (by kernel_rfl) Try.func4 (by kernel_rfl)
    (of_decide_eq_true (by kernel_rfl)) (by unfold Func.isWrapper; first | (rw [if_pos (by decide +kernel)]; kernel_rfl) | (rw [if_neg (by decide +kernel)]; exact ⟨rfl, rfl⟩))
    (fun os started H enc _ => piecesAsk_lifted os started H enc)

#print axioms piecesAsk_holds
end Go.Proofs.Ytblcggmbaofflaa
