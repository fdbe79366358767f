/-
  The law LinesMay, said of its row.
  LinesMay returns true for every text; its argument reads as it did.
-/
import Derived.Test.YteabpdahhjfaiaaLinesBack
import Derived.Test.YteabpdahhjfaiaaLaw
import Derived.Test.YteabpdahhjfaiaaOpen
namespace Go.Proofs.Yteabpdahhjfaiaa
open Go.ChangeShapes Go.WideShapes Go.ChangeAt Go.RowKit Go.Joins Go.ChangeMaps

set_option maxRecDepth 100000 in
theorem linesMay_lifted (os : Os) (started : os.Started) (H : Type) (enc : TypeId × Value → H) :
    ReturnsInHanded {} Try.checked os 8 .any (Rows.linesMaySpec.pre6 enc Try.prog Try.f8 Rows.linesMayRow.domain false) (Rows.linesMaySpec.post enc Try.prog Try.f8 false true false false) :=
  law_lifted (s := Rows.linesMaySpec) started (by kernel_rfl) Try.func8 rfl (by kernel_rfl) (by kernel_rfl)
    (fun ds h => by
      rw [show Try.f8.params.size = 1 by kernel_rfl] at h
      match ds, h with
      | [_], _ => rfl)
    (ChangeSpec.witness6 (enc := enc) (C := Try.checked) false ⟨#[], #[.string ⟨#[]⟩], []⟩ 8 (by kernel_rfl) (by kernel_rfl) (by kernel_rfl) (by kernel_rfl))
    (fun W base args ds p hval hA => by
      rw [Try.params8] at hA hval
      obtain ⟨v0, d0, rfl, rfl, h0⟩ := trodAll_one hA
      obtain ⟨s, rfl, -, -, hs⟩ := open_string Try.underlying9 (hval 0 9 v0 rfl rfl) h0
      exact (by rw [← tx_of s]; exact linesMay_law s.data.toList (by simp; exact hs) W))

theorem linesMay_holds : Rows.LinesMaySaid :=
  OpenClaim.holds_of_wide 8 Try.f8 rfl rfl rfl rfl rfl rfl rfl ⟨rfl, rfl, rfl, rfl, rfl⟩ rfl rfl rfl rfl rfl (by kernel_rfl) Try.func8 (by kernel_rfl)
    (of_decide_eq_true (by kernel_rfl)) (by unfold Func.isWrapper; first | (rw [if_pos (by decide +kernel)]; kernel_rfl) | (rw [if_neg (by decide +kernel)]; exact ⟨rfl, rfl⟩))
    (fun os started H enc _ => linesMay_lifted os started H enc)

#print axioms linesMay_holds
end Go.Proofs.Yteabpdahhjfaiaa
