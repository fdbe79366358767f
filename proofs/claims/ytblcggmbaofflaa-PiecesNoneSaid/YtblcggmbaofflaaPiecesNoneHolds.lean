/-
  The law PiecesNone, said of its row.
  PiecesNone returns true for every two numbers and every list of strings; its arguments read as they did.
-/
import Derived.Test.YtblcggmbaofflaaPiecesNone
import Derived.Test.YtblcggmbaofflaaCame
import Derived.Test.YtblcggmbaofflaaLaw
import Derived.Test.YtblcggmbaofflaaOpen
namespace Go.Proofs.Ytblcggmbaofflaa
open Go.ChangeShapes Go.WideShapes Go.ChangeAt Go.RowKit Go.Joins Go.ChangeMaps

set_option maxRecDepth 100000 in
theorem piecesNone_lifted (os : Os) (started : os.Started) (H : Type) (enc : TypeId × Value → H) :
    ReturnsInHanded {} Try.checked os 5 .any (Rows.piecesNoneSpec.pre6 enc Try.prog Try.f5 Rows.piecesNoneRow.domain false) (Rows.piecesNoneSpec.post enc Try.prog Try.f5 false true false false) :=
  law_lifted (s := Rows.piecesNoneSpec) started (by kernel_rfl) Try.func5 rfl (by kernel_rfl) (by kernel_rfl)
    (fun ds h => by
      rw [show Try.f5.params.size = 3 by kernel_rfl] at h
      match ds, h with
      | [_, _, _], _ => rfl)
    (ChangeSpec.witness6 (enc := enc) (C := Try.checked) false ⟨#[], #[.int .i64 0, .int .i64 0, .slice none 0 0], []⟩ 8 (by kernel_rfl) (by kernel_rfl) (by kernel_rfl) (by kernel_rfl))
    (fun W base args ds p hval hA => by
      rw [Try.params5] at hA hval
      obtain ⟨v0, v1, v2, d0, d1, d2, p0, p1, p2, rfl, rfl, rfl, h0, h1, h2⟩ := trodAll_three hA
      obtain ⟨a, rfl, -, -, ha⟩ := open_int Try.underlying3 (hval 0 3 v0 rfl rfl) h0
      obtain ⟨b, rfl, -, -, hb⟩ := open_int Try.underlying3 (hval 1 3 v1 rfl rfl) h1
      obtain ⟨iA, iC, i, rfl, hi⟩ := open_lines (hval 2 22 v2 rfl rfl) h2
      exact piecesNone_law a b (i64_wf ha) (i64_wf hb) iA iC i W hi)

theorem piecesNone_holds : Rows.PiecesNoneSaid :=
  OpenClaim.holds_of_wide 5 Try.f5 rfl rfl rfl rfl rfl rfl rfl ⟨rfl, rfl, rfl, rfl, rfl⟩ rfl rfl rfl rfl rfl (by kernel_rfl) Try.func5 (by kernel_rfl)
    (of_decide_eq_true (by kernel_rfl)) (by unfold Func.isWrapper; first | (rw [if_pos (by decide +kernel)]; kernel_rfl) | (rw [if_neg (by decide +kernel)]; exact ⟨rfl, rfl⟩))
    (fun os started H enc _ => piecesNone_lifted os started H enc)

#print axioms piecesNone_holds
end Go.Proofs.Ytblcggmbaofflaa
