/-
  The law LinesParts, said of its row.
  LinesParts returns true for every two texts; its arguments read as they did.
-/
import Derived.Test.YteabpdahhjfaiaaLinesParts
import Derived.Test.YteabpdahhjfaiaaLaw
import Derived.Test.YteabpdahhjfaiaaOpen
namespace Go.Proofs.Yteabpdahhjfaiaa
open Go.ChangeShapes Go.WideShapes Go.ChangeAt Go.RowKit Go.Joins Go.ChangeMaps

set_option maxRecDepth 100000 in
theorem linesParts_lifted (os : Os) (started : os.Started) (H : Type) (enc : TypeId × Value → H) :
    ReturnsInHanded {} Try.checked os 5 .any (Rows.linesPartsSpec.pre6 enc Try.prog Try.f5 Rows.linesPartsRow.domain false) (Rows.linesPartsSpec.post enc Try.prog Try.f5 false true false false) :=
  law_lifted (s := Rows.linesPartsSpec) started (by kernel_rfl) Try.func5 rfl (by kernel_rfl) (by kernel_rfl)
    (fun ds h => by
      rw [show Try.f5.params.size = 2 by kernel_rfl] at h
      match ds, h with
      | [_, _], _ => rfl)
    (ChangeSpec.witness6 (enc := enc) (C := Try.checked) false ⟨#[], #[.string ⟨#[]⟩, .string ⟨#[]⟩], []⟩ 8 (by kernel_rfl) (by kernel_rfl) (by kernel_rfl) (by kernel_rfl))
    (fun W base args ds p hval hA => by
      rw [Try.params5] at hA hval
      obtain ⟨v0, v1, d0, d1, p0, p1, rfl, rfl, rfl, h0, h1⟩ := trodAll_two hA
      obtain ⟨s, rfl, -, -, hs⟩ := open_string Try.underlying9 (hval 0 9 v0 rfl rfl) h0
      obtain ⟨t, rfl, -, -, ht⟩ := open_string Try.underlying9 (hval 1 9 v1 rfl rfl) h1
      exact (by rw [← tx_of s, ← tx_of t]; exact linesParts_any s.data.toList t.data.toList (by simp; exact hs) (by simp; exact ht) W))

theorem linesParts_holds : Rows.LinesPartsSaid :=
  OpenClaim.holds_of_wide 5 Try.f5 rfl rfl rfl rfl rfl rfl rfl ⟨rfl, rfl, rfl, rfl, rfl⟩ rfl rfl rfl rfl rfl (by kernel_rfl) Try.func5 (by kernel_rfl)
    (of_decide_eq_true (by kernel_rfl)) (by unfold Func.isWrapper; first | (rw [if_pos (by decide +kernel)]; kernel_rfl) | (rw [if_neg (by decide +kernel)]; exact ⟨rfl, rfl⟩))
    (fun os started H enc _ => linesParts_lifted os started H enc)

#print axioms linesParts_holds
end Go.Proofs.Yteabpdahhjfaiaa
