/-
  The law CorePlays, said of its row.
  Whatever is done to a buffer, each answer and all that can be asked of it is the chapter's answer, for all arguments.
-/
import Derived.Test.YthanghgfakibnaaPk48
import Derived.Test.YthanghgfakibnaaPk36
import Derived.Test.YthanghgfakibnaaPk11
namespace Go.Proofs.Ythanghgfakibnaa
open Go.ChangeShapes Go.WideShapes Go.ChangeAt Go.RowKit Go.Joins Go.ChangeMaps

set_option maxRecDepth 100000 in
theorem corePlays_lifted (os : Os) (started : os.Started) (H : Type) (enc : TypeId × Value → H) :
    ReturnsInHanded {} Try.checked os 6 .any (Rows.corePlaysSpec.pre6 enc Try.prog Try.f6 Rows.corePlaysRow.domain false) (Rows.corePlaysSpec.post enc Try.prog Try.f6 false true false false) :=
  law_lifted (s := Rows.corePlaysSpec) started (by kernel_rfl) Try.func6 rfl (by kernel_rfl) (by kernel_rfl)
    (fun ds h => by
      rw [show Try.f6.params.size = 2 by kernel_rfl] at h
      match ds, h with
      | [_, _], _ => rfl)
    (ChangeSpec.witness6 (enc := enc) (C := Try.checked) false ⟨#[], #[.slice none 0 0, .slice none 0 0], []⟩ 8 (by kernel_rfl) (by kernel_rfl) (by kernel_rfl) (by kernel_rfl))
    (fun W base args ds p hval hA => by
      rw [Try.params6] at hA hval
      obtain ⟨v0, v1, d0, d1, p0, p1, rfl, rfl, rfl, h0, h1⟩ := trodAll_two hA
      obtain ⟨lA, lC, l, rfl, hl⟩ := open_lines (hval 0 22 v0 rfl rfl) h0
      obtain ⟨A2, L, cap2, rfl, hL⟩ := open_acs (hval 1 28 v1 rfl rfl) h1
      exact corePlays_law lA A2 lC cap2 l L W hl hL)

set_option maxRecDepth 3000 in
theorem corePlays_holds : Rows.CorePlaysSaid :=
  OpenClaim.holds_of_wide 6 Try.f6 rfl rfl rfl rfl rfl rfl rfl ⟨rfl, rfl, rfl, rfl, rfl⟩ rfl rfl rfl rfl rfl (by kernel_rfl) Try.func6 (by kernel_rfl)
    (of_decide_eq_true (by kernel_rfl)) (by unfold Func.isWrapper; first | (rw [if_pos (by decide +kernel)]; kernel_rfl) | (rw [if_neg (by decide +kernel)]; exact ⟨rfl, rfl⟩))
    (fun os started H enc _ => corePlays_lifted os started H enc)

#print axioms corePlays_holds
end Go.Proofs.Ythanghgfakibnaa
