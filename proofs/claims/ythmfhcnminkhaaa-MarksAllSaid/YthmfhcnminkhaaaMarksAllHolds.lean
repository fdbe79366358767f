/-
  Chapter 16: the law MarksAll, said of its row.
  MarksAll returns true for every array of marks and every list of splices; its arguments read as they did.
-/
import Derived.Test.YthmfhcnminkhaaaMarksAllLaw
import Derived.Test.YthmfhcnminkhaaaMarksOpen
namespace Go.Proofs.Ythmfhcnminkhaaa
open Go.ChangeShapes Go.WideShapes Go.ChangeAt Go.RowKit Go.Joins

set_option maxRecDepth 100000 in
theorem marksAll_lifted (os : Os) (started : os.Started) (H : Type) (enc : TypeId × Value → H) :
    ReturnsInHanded {} Try.checked os 4 .any (Rows.marksAllSpec.pre6 enc Try.prog Try.f4 Rows.marksAllRow.domain false) (Rows.marksAllSpec.post enc Try.prog Try.f4 false true false false) :=
  law_lifted (s := Rows.marksAllSpec) started (by kernel_rfl) Try.func4 rfl (by kernel_rfl) (by kernel_rfl)
    (fun ds h => by
      rw [show Try.f4.params.size = 2 by kernel_rfl] at h
      match ds, h with
      | [_, _], _ => rfl)
    (ChangeSpec.witness6 (enc := enc) (C := Try.checked) false ⟨#[], #[.agg (MA zeros), .slice none 0 0], []⟩ 8 (by kernel_rfl) (by kernel_rfl) (by kernel_rfl) (by kernel_rfl))
    (fun W base args ds p hval hA => by
      rw [Try.params4] at hA hval
      obtain ⟨v0, v1, d0, d1, p0, p1, rfl, rfl, rfl, h0, h1⟩ := trodAll_two hA
      obtain ⟨ms, rfl, hms, hm⟩ := open_nums Try.underlying23 Try.underlying3 (by kernel_rfl) (by kernel_rfl) (hval 0 23 v0 rfl rfl) h0
      obtain ⟨A, L, cap, rfl, hL, hl, hR⟩ := open_spls (hval 1 29 v1 rfl rfl) h1
      exact marksAll_whole ms L A cap W hms hm hR hL hl)

theorem marksAll_holds : Rows.MarksAllSaid :=
  OpenClaim.holds_of_wide 4 Try.f4 rfl rfl rfl rfl rfl rfl rfl ⟨rfl, rfl, rfl, rfl, rfl⟩ rfl rfl rfl rfl rfl (by kernel_rfl) Try.func4 (by kernel_rfl)
    (of_decide_eq_true (by kernel_rfl)) (by unfold Func.isWrapper; first | (rw [if_pos (by decide +kernel)]; kernel_rfl) | (rw [if_neg (by decide +kernel)]; exact ⟨rfl, rfl⟩))
    (fun os started H enc _ => marksAll_lifted os started H enc)

#print axioms marksAll_holds
end Go.Proofs.Ythmfhcnminkhaaa
