/-
  The law PiecesLimits, said of its row.
  PiecesLimits returns true for every two bytes; its arguments read as they did.
-/
import Derived.Test.YtblcggmbaofflaaPiecesLimitsLaw
import Derived.Test.YtblcggmbaofflaaLaw
import Derived.Test.YtblcggmbaofflaaOpen
namespace Go.Proofs.Ytblcggmbaofflaa
open Go.ChangeShapes Go.WideShapes Go.ChangeAt Go.RowKit Go.Joins Go.ChangeMaps

set_option maxRecDepth 100000 in
theorem piecesLimits_lifted (os : Os) (started : os.Started) (H : Type) (enc : TypeId × Value → H) :
    ReturnsInHanded {} Try.checked os 9 .any (Rows.piecesLimitsSpec.pre6 enc Try.prog Try.f9 Rows.piecesLimitsRow.domain false) (Rows.piecesLimitsSpec.post enc Try.prog Try.f9 false true false false) :=
  law_lifted (s := Rows.piecesLimitsSpec) started (by kernel_rfl) Try.func9 rfl (by kernel_rfl) (by kernel_rfl)
    (fun ds h => by
      rw [show Try.f9.params.size = 2 by kernel_rfl] at h
      match ds, h with
      | [_, _], _ => rfl)
    (ChangeSpec.witness6 (enc := enc) (C := Try.checked) false ⟨#[], #[.int .u8 0, .int .u8 0], []⟩ 8 (by kernel_rfl) (by kernel_rfl) (by kernel_rfl) (by kernel_rfl))
    (fun W base args ds p hval hA => by
      rw [Try.params9] at hA hval
      obtain ⟨v0, v1, d0, d1, p0, p1, rfl, rfl, rfl, h0, h1⟩ := trodAll_two hA
      obtain ⟨a, rfl, -, -, ha⟩ := open_int Try.underlying5 (hval 0 5 v0 rfl rfl) h0
      obtain ⟨b, rfl, -, -, hb⟩ := open_int Try.underlying5 (hval 1 5 v1 rfl rfl) h1
      exact piecesLimits_law a b (u8_wf ha) (u8_wf hb) W)

theorem piecesLimits_holds : Rows.PiecesLimitsSaid :=
  OpenClaim.holds_of_wide 9 Try.f9 rfl rfl rfl rfl rfl rfl rfl ⟨rfl, rfl, rfl, rfl, rfl⟩ rfl rfl rfl rfl rfl (by kernel_rfl) Try.func9 (by kernel_rfl)
    (of_decide_eq_true (by kernel_rfl)) (by unfold Func.isWrapper; first | (rw [if_pos (by decide +kernel)]; kernel_rfl) | (rw [if_neg (by decide +kernel)]; exact ⟨rfl, rfl⟩))
    (fun os started H enc _ => piecesLimits_lifted os started H enc)

#print axioms piecesLimits_holds
end Go.Proofs.Ytblcggmbaofflaa
