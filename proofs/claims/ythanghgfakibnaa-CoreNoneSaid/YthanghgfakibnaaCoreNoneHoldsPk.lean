/-
  The law CoreNone, said of its row.
  A buffer that is none has nothing, and takes nothing, for every act.
-/
import Derived.Test.YthanghgfakibnaaPk48
import Derived.Test.YthanghgfakibnaaPk45
import Derived.Test.YthanghgfakibnaaPk14
namespace Go.Proofs.Ythanghgfakibnaa
open Go.ChangeShapes Go.WideShapes Go.ChangeAt Go.RowKit Go.Joins Go.ChangeMaps

set_option maxRecDepth 100000 in
theorem coreNone_lifted (os : Os) (started : os.Started) (H : Type) (enc : TypeId × Value → H) :
    ReturnsInHanded {} Try.checked os 3 .any (Rows.coreNoneSpec.pre6 enc Try.prog Try.f3 Rows.coreNoneRow.domain false) (Rows.coreNoneSpec.post enc Try.prog Try.f3 false true false false) :=
  law_lifted (s := Rows.coreNoneSpec) started (by kernel_rfl) Try.func3 rfl (by kernel_rfl) (by kernel_rfl)
    (fun ds h => by
      rw [show Try.f3.params.size = 1 by kernel_rfl] at h
      match ds, h with
      | [_], _ => rfl)
    (ChangeSpec.witness6 (enc := enc) (C := Try.checked) false ⟨#[], #[.agg #[.int .u8 0, .int .i64 0, .int .i64 0, .slice none 0 0, .int .i64 0, .int .u8 0, .string ⟨#[]⟩]], []⟩ 8 (by kernel_rfl) (by kernel_rfl) (by kernel_rfl) (by kernel_rfl))
    (fun W base args ds p hval hA => by
      rw [Try.params3] at hA hval
      obtain ⟨v0, d0, rfl, rfl, h0⟩ := trodAll_one hA
      obtain ⟨s, rfl, hs⟩ := open_act1 (hval 0 26 v0 rfl rfl) h0
      exact coreNone_law s W hs)

set_option maxRecDepth 3000 in
theorem coreNone_holds : Rows.CoreNoneSaid :=
  OpenClaim.holds_of_wide 3 Try.f3 rfl rfl rfl rfl rfl rfl rfl ⟨rfl, rfl, rfl, rfl, rfl⟩ rfl rfl rfl rfl rfl (by kernel_rfl) Try.func3 (by kernel_rfl)
    (of_decide_eq_true (by kernel_rfl)) (by unfold Func.isWrapper; first | (rw [if_pos (by decide +kernel)]; kernel_rfl) | (rw [if_neg (by decide +kernel)]; exact ⟨rfl, rfl⟩))
    (fun os started H enc _ => coreNone_lifted os started H enc)

#print axioms coreNone_holds
end Go.Proofs.Ythanghgfakibnaa
