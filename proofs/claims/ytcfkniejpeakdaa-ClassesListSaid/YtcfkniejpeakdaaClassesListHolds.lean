/-
  The law ClassesList, said of its row.
  ClassesList returns true for every list of bytes and every two bytes; its arguments read as they did.
-/
import Derived.Test.YtcfkniejpeakdaaClsList
import Derived.Test.YtcfkniejpeakdaaOpenBytes
import Derived.Test.YtcfkniejpeakdaaLawS
import Derived.Test.YtcfkniejpeakdaaOpen
namespace Go.Proofs.Ytcfkniejpeakdaa
open Go.ChangeShapes Go.WideShapes Go.ChangeAt Go.RowKit Go.Joins Go.ChangeMaps

set_option maxRecDepth 100000 in
theorem classesList_lifted (os : Os) (started : os.Started) (H : Type) (enc : TypeId × Value → H) :
    ReturnsInHanded {} Try.checked os 7 .any (Rows.classesListSpec.pre6 enc Try.prog Try.f7 Rows.classesListRow.domain false) (Rows.classesListSpec.post enc Try.prog Try.f7 false true false false) :=
  law_lifted_shaped (s := Rows.classesListSpec) started (by kernel_rfl) Try.func7 rfl (by kernel_rfl) (by kernel_rfl)
    (fun ds h => by
      rw [show Try.f7.params.size = 3 by kernel_rfl] at h
      match ds, h with
      | [_, _, _], _ => rfl)
    (ChangeSpec.witness6 (enc := enc) (C := Try.checked) false ⟨#[], #[.slice none 0 0, .int .u8 0, .int .u8 0], []⟩ 8 (by kernel_rfl) (by kernel_rfl) (by kernel_rfl) (by kernel_rfl))
    (fun W base args ds p hval hA hsh => by
      rw [Try.params7] at hA hval
      obtain ⟨v0, v1, v2, d0, d1, d2, p0, p1, p2, rfl, rfl, rfl, h0, h1, h2⟩ := trodAll_three hA
      obtain ⟨lA, l, lC, rfl, hl⟩ := open_bytes (hval 0 32 v0 rfl rfl) h0
      obtain ⟨x, rfl, -, -, hx⟩ := open_int Try.underlying5 (hval 1 5 v1 rfl rfl) h1
      obtain ⟨y, rfl, -, -, hy⟩ := open_int Try.underlying5 (hval 2 5 v2 rfl rfl) h2
      exact classesList_law lA lC l x y W (sane_of_shaped hsh) hl (u8_wf hx) (u8_wf hy))

theorem classesList_holds : Rows.ClassesListSaid :=
  OpenClaim.holds_of_wide 7 Try.f7 rfl rfl rfl rfl rfl rfl rfl ⟨rfl, rfl, rfl, rfl, rfl⟩ rfl rfl rfl rfl rfl (by kernel_rfl) Try.func7 (by kernel_rfl)
    (of_decide_eq_true (by kernel_rfl)) (by unfold Func.isWrapper; first | (rw [if_pos (by decide +kernel)]; kernel_rfl) | (rw [if_neg (by decide +kernel)]; exact ⟨rfl, rfl⟩))
    (fun os started H enc _ => classesList_lifted os started H enc)

#print axioms classesList_holds
end Go.Proofs.Ytcfkniejpeakdaa
