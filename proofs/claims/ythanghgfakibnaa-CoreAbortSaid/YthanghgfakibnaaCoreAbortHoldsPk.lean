/-
  The law CoreAbort, said of its row.
  A change that is left undone leaves lines, current line, marks and registers as they were, and what an undo brings back, for all arguments.
-/
import Derived.Test.YthanghgfakibnaaPk48
import Derived.Test.YthanghgfakibnaaPk41
import Derived.Test.YthanghgfakibnaaPk12
namespace Go.Proofs.Ythanghgfakibnaa
open Go.ChangeShapes Go.WideShapes Go.ChangeAt Go.RowKit Go.Joins Go.ChangeMaps

set_option maxRecDepth 100000 in
theorem coreAbort_lifted (os : Os) (started : os.Started) (H : Type) (enc : TypeId × Value → H) :
    ReturnsInHanded {} Try.checked os 5 .any (Rows.coreAbortSpec.pre6 enc Try.prog Try.f5 Rows.coreAbortRow.domain false) (Rows.coreAbortSpec.post enc Try.prog Try.f5 false true false false) :=
  law_lifted (s := Rows.coreAbortSpec) started (by kernel_rfl) Try.func5 rfl (by kernel_rfl) (by kernel_rfl)
    (fun ds h => by
      rw [show Try.f5.params.size = 3 by kernel_rfl] at h
      match ds, h with
      | [_, _, _], _ => rfl)
    (ChangeSpec.witness6 (enc := enc) (C := Try.checked) false ⟨#[], #[.slice none 0 0, .slice none 0 0, .slice none 0 0], []⟩ 8 (by kernel_rfl) (by kernel_rfl) (by kernel_rfl) (by kernel_rfl))
    (fun W base args ds p hval hA => by
      rw [Try.params5] at hA hval
      obtain ⟨v0, v1, v2, d0, d1, d2, p0, p1, p2, rfl, rfl, rfl, h0, h1, h2⟩ := trodAll_three hA
      obtain ⟨lA, lC, l, rfl, hl⟩ := open_lines (hval 0 22 v0 rfl rfl) h0
      obtain ⟨A2, L, cap2, rfl, hL⟩ := open_acs (hval 1 28 v1 rfl rfl) h1
      obtain ⟨A3, S, cap3, rfl, hS⟩ := open_acs (hval 2 28 v2 rfl rfl) h2
      exact coreAbort_law lA A2 A3 lC cap2 cap3 l L S W hl hL hS)

set_option maxRecDepth 3000 in
theorem coreAbort_holds : Rows.CoreAbortSaid :=
  OpenClaim.holds_of_wide 5 Try.f5 rfl rfl rfl rfl rfl rfl rfl ⟨rfl, rfl, rfl, rfl, rfl⟩ rfl rfl rfl rfl rfl (by kernel_rfl) Try.func5 (by kernel_rfl)
    (of_decide_eq_true (by kernel_rfl)) (by unfold Func.isWrapper; first | (rw [if_pos (by decide +kernel)]; kernel_rfl) | (rw [if_neg (by decide +kernel)]; exact ⟨rfl, rfl⟩))
    (fun os started H enc _ => coreAbort_lifted os started H enc)

#print axioms coreAbort_holds
end Go.Proofs.Ythanghgfakibnaa
