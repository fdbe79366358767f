/-
  Chapter 16: the law MarksStay, said of its row.
  MarksStay returns true for every number of lines and every list of splices; its arguments read as they did.
-/
import Derived.Test.YthmfhcnminkhaaaMarksStay
import Derived.Test.YthmfhcnminkhaaaMarksOpen
namespace Go.Proofs.Ythmfhcnminkhaaa
open Go.ChangeShapes Go.WideShapes Go.ChangeAt Go.RowKit Go.Joins

set_option maxRecDepth 100000 in
theorem marksStay_lifted (os : Os) (started : os.Started) (H : Type) (enc : TypeId × Value → H) :
    ReturnsInHanded {} Try.checked os 5 .any (Rows.marksStaySpec.pre6 enc Try.prog Try.f5 Rows.marksStayRow.domain false) (Rows.marksStaySpec.post enc Try.prog Try.f5 false true false false) :=
  law_lifted (s := Rows.marksStaySpec) started (by kernel_rfl) Try.func5 rfl (by kernel_rfl) (by kernel_rfl)
    (fun ds h => by
      rw [show Try.f5.params.size = 2 by kernel_rfl] at h
      match ds, h with
      | [_, _], _ => rfl)
    (ChangeSpec.witness6 (enc := enc) (C := Try.checked) false ⟨#[], #[.int .u8 0, .slice none 0 0], []⟩ 8 (by kernel_rfl) (by kernel_rfl) (by kernel_rfl) (by kernel_rfl))
    (fun W base args ds p hval hA => by
      rw [Try.params5] at hA hval
      obtain ⟨v0, v1, d0, d1, p0, p1, rfl, rfl, rfl, h0, h1⟩ := trodAll_two hA
      obtain ⟨n, rfl, -, -, hn⟩ := open_int Try.underlying5 (hval 0 5 v0 rfl rfl) h0
      obtain ⟨h0n, h1n⟩ := u8_wf hn
      obtain ⟨many, rfl⟩ : ∃ many : UInt8, n = (many.toNat : Int) := ⟨UInt8.ofNat n.toNat, by simp only [UInt8.toNat_ofNat']; omega⟩
      obtain ⟨A, L, cap, rfl, hL, hl, hR⟩ := open_spls (hval 1 29 v1 rfl rfl) h1
      exact marksStay_whole many L A cap W hR hL hl)

theorem marksStay_holds : Rows.MarksStaySaid :=
  OpenClaim.holds_of_wide 5 Try.f5 rfl rfl rfl rfl rfl rfl rfl ⟨rfl, rfl, rfl, rfl, rfl⟩ rfl rfl rfl rfl rfl (by kernel_rfl) Try.func5 (by kernel_rfl)
    (of_decide_eq_true (by kernel_rfl)) (by unfold Func.isWrapper; first | (rw [if_pos (by decide +kernel)]; kernel_rfl) | (rw [if_neg (by decide +kernel)]; exact ⟨rfl, rfl⟩))
    (fun os started H enc _ => marksStay_lifted os started H enc)

#print axioms marksStay_holds
end Go.Proofs.Ythmfhcnminkhaaa
