/-
  The law KeysRead, said of its row.
  KeysRead returns true for every text and every byte; its arguments read as they did.
-/
import Derived.Test.YtljahcdnleefbaaKeysRead
import Derived.Test.YtljahcdnleefbaaLaw
import Derived.Test.YtljahcdnleefbaaOpen
namespace Go.Proofs.Ytljahcdnleefbaa
open Go.ChangeShapes Go.WideShapes Go.ChangeAt Go.RowKit Go.Joins Go.ChangeMaps

set_option maxRecDepth 100000 in
theorem keysRead_lifted (os : Os) (started : os.Started) (H : Type) (enc : TypeId × Value → H) :
    ReturnsInHanded {} Try.checked os 4 .any (Rows.keysReadSpec.pre6 enc Try.prog Try.f4 Rows.keysReadRow.domain false) (Rows.keysReadSpec.post enc Try.prog Try.f4 false true false false) :=
  law_lifted (s := Rows.keysReadSpec) started (by kernel_rfl) Try.func4 rfl (by kernel_rfl) (by kernel_rfl)
    (fun ds h => by
      rw [show Try.f4.params.size = 2 by kernel_rfl] at h
      match ds, h with
      | [_, _], _ => rfl)
    (ChangeSpec.witness6 (enc := enc) (C := Try.checked) false ⟨#[], #[.string ⟨#[]⟩, .int .u8 0], []⟩ 8 (by kernel_rfl) (by kernel_rfl) (by kernel_rfl) (by kernel_rfl))
    (fun W base args ds p hval hA => by
      rw [Try.params4] at hA hval
      obtain ⟨v0, v1, d0, d1, p0, p1, rfl, rfl, rfl, h0, h1⟩ := trodAll_two hA
      obtain ⟨s, rfl, -, -, hs⟩ := open_string Try.underlying9 (hval 0 9 v0 rfl rfl) h0
      obtain ⟨c, rfl, -, -, hc⟩ := open_int Try.underlying5 (hval 1 5 v1 rfl rfl) h1
      exact keysRead_any s c (u8_wf hc) W)

theorem keysRead_holds : Rows.KeysReadSaid :=
  OpenClaim.holds_of_wide 4 Try.f4 rfl rfl rfl rfl rfl rfl rfl ⟨rfl, rfl, rfl, rfl, rfl⟩ rfl rfl rfl rfl rfl (by kernel_rfl) Try.func4 (by kernel_rfl)
    (of_decide_eq_true (by kernel_rfl)) (by unfold Func.isWrapper; first | (rw [if_pos (by decide +kernel)]; kernel_rfl) | (rw [if_neg (by decide +kernel)]; exact ⟨rfl, rfl⟩))
    (fun os started H enc _ => keysRead_lifted os started H enc)

#print axioms keysRead_holds
end Go.Proofs.Ytljahcdnleefbaa
