/-
  The law ClassesJoin, said of its row.
  ClassesJoin returns true for every byte and every list of bytes; its arguments read as they did.
-/
import Derived.Test.YtcfkniejpeakdaaClsJoin
import Derived.Test.YtcfkniejpeakdaaOpenBytes
import Derived.Test.YtcfkniejpeakdaaLawS
import Derived.Test.YtcfkniejpeakdaaOpen
namespace Go.Proofs.Ytcfkniejpeakdaa
open Go.ChangeShapes Go.WideShapes Go.ChangeAt Go.RowKit Go.Joins Go.ChangeMaps

set_option maxRecDepth 100000 in
theorem classesJoin_lifted (os : Os) (started : os.Started) (H : Type) (enc : TypeId × Value → H) :
    ReturnsInHanded {} Try.checked os 9 .any (Rows.classesJoinSpec.pre6 enc Try.prog Try.f9 Rows.classesJoinRow.domain false) (Rows.classesJoinSpec.post enc Try.prog Try.f9 false true false false) :=
  law_lifted_shaped (s := Rows.classesJoinSpec) started (by kernel_rfl) Try.func9 rfl (by kernel_rfl) (by kernel_rfl)
    (fun ds h => by
      rw [show Try.f9.params.size = 2 by kernel_rfl] at h
      match ds, h with
      | [_, _], _ => rfl)
    (ChangeSpec.witness6 (enc := enc) (C := Try.checked) false ⟨#[], #[.int .u8 0, .slice none 0 0], []⟩ 8 (by kernel_rfl) (by kernel_rfl) (by kernel_rfl) (by kernel_rfl))
    (fun W base args ds p hval hA hsh => by
      rw [Try.params9] at hA hval
      obtain ⟨v0, v1, d0, d1, p0, p1, rfl, rfl, rfl, h0, h1⟩ := trodAll_two hA
      obtain ⟨x, rfl, -, -, hx⟩ := open_int Try.underlying5 (hval 0 5 v0 rfl rfl) h0
      obtain ⟨lA, l, lC, rfl, hl⟩ := open_bytes (hval 1 32 v1 rfl rfl) h1
      exact classesJoin_law x lA lC l W (sane_of_shaped hsh) (u8_wf hx) hl)

theorem classesJoin_holds : Rows.ClassesJoinSaid :=
  OpenClaim.holds_of_wide 9 Try.f9 rfl rfl rfl rfl rfl rfl rfl ⟨rfl, rfl, rfl, rfl, rfl⟩ rfl rfl rfl rfl rfl (by kernel_rfl) Try.func9 (by kernel_rfl)
    (of_decide_eq_true (by kernel_rfl)) (by unfold Func.isWrapper; first | (rw [if_pos (by decide +kernel)]; kernel_rfl) | (rw [if_neg (by decide +kernel)]; exact ⟨rfl, rfl⟩))
    (fun os started H enc _ => classesJoin_lifted os started H enc)

#print axioms classesJoin_holds
end Go.Proofs.Ytcfkniejpeakdaa
