/-
  The law TemplatesNone, said of its row.
  TemplatesNone returns true for every text and every spans; its arguments read as they did.
-/
import Derived.Test.YtdgahppgpldnpaaTplTell
import Derived.Test.YtdgahppgpldnpaaOpenArr
import Derived.Test.YtdgahppgpldnpaaLaw
import Derived.Test.YtdgahppgpldnpaaOpen
namespace Go.Proofs.Ytdgahppgpldnpaa
open Go.ChangeShapes Go.WideShapes Go.ChangeAt Go.RowKit Go.Joins Go.ChangeMaps

set_option maxRecDepth 100000 in
theorem templatesNone_lifted (os : Os) (started : os.Started) (H : Type) (enc : TypeId × Value → H) :
    ReturnsInHanded {} Try.checked os 4 .any (Rows.templatesNoneSpec.pre6 enc Try.prog Try.f4 Rows.templatesNoneRow.domain false) (Rows.templatesNoneSpec.post enc Try.prog Try.f4 false true false false) :=
  law_lifted (s := Rows.templatesNoneSpec) started (by kernel_rfl) Try.func4 rfl (by kernel_rfl) (by kernel_rfl)
    (fun ds h => by
      rw [show Try.f4.params.size = 2 by kernel_rfl] at h
      match ds, h with
      | [_, _], _ => rfl)
    (ChangeSpec.witness6 (enc := enc) (C := Try.checked) false ⟨#[], #[.string ⟨#[]⟩, .agg (nums (List.replicate 20 0))], []⟩ 8 (by kernel_rfl) (by kernel_rfl) (by kernel_rfl) (by kernel_rfl))
    (fun W base args ds p hval hA => by
      rw [Try.params4] at hA hval
      obtain ⟨v0, v1, d0, d1, p0, p1, rfl, rfl, rfl, h0, h1⟩ := trodAll_two hA
      obtain ⟨s, rfl, -, -, hs⟩ := open_string Try.underlying9 (hval 0 9 v0 rfl rfl) h0
      obtain ⟨ms, rfl, hml, hms⟩ := open_spans (hval 1 23 v1 rfl rfl) h1
      exact (by rw [← tx_of s]; exact templatesNone_law s.data.toList ms W hml (by simp; exact hs)))

theorem templatesNone_holds : Rows.TemplatesNoneSaid :=
  OpenClaim.holds_of_wide 4 Try.f4 rfl rfl rfl rfl rfl rfl rfl ⟨rfl, rfl, rfl, rfl, rfl⟩ rfl rfl rfl rfl rfl (by kernel_rfl) Try.func4 (by kernel_rfl)
    (of_decide_eq_true (by kernel_rfl)) (by unfold Func.isWrapper; first | (rw [if_pos (by decide +kernel)]; kernel_rfl) | (rw [if_neg (by decide +kernel)]; exact ⟨rfl, rfl⟩))
    (fun os started H enc _ => templatesNone_lifted os started H enc)

#print axioms templatesNone_holds
end Go.Proofs.Ytdgahppgpldnpaa
