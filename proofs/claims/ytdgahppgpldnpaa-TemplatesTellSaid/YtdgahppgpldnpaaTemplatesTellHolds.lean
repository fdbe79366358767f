/-
  The law TemplatesTell, said of its row.
  TemplatesTell returns true for every two texts and every spans; its arguments read as they did.
-/
import Derived.Test.YtdgahppgpldnpaaTplTell
import Derived.Test.YtdgahppgpldnpaaOpenArr
import Derived.Test.YtdgahppgpldnpaaLaw
import Derived.Test.YtdgahppgpldnpaaOpen
namespace Go.Proofs.Ytdgahppgpldnpaa
open Go.ChangeShapes Go.WideShapes Go.ChangeAt Go.RowKit Go.Joins Go.ChangeMaps

set_option maxRecDepth 100000 in
theorem templatesTell_lifted (os : Os) (started : os.Started) (H : Type) (enc : TypeId × Value → H) :
    ReturnsInHanded {} Try.checked os 3 .any (Rows.templatesTellSpec.pre6 enc Try.prog Try.f3 Rows.templatesTellRow.domain false) (Rows.templatesTellSpec.post enc Try.prog Try.f3 false true false false) :=
  law_lifted (s := Rows.templatesTellSpec) started (by kernel_rfl) Try.func3 rfl (by kernel_rfl) (by kernel_rfl)
    (fun ds h => by
      rw [show Try.f3.params.size = 3 by kernel_rfl] at h
      match ds, h with
      | [_, _, _], _ => rfl)
    (ChangeSpec.witness6 (enc := enc) (C := Try.checked) false ⟨#[], #[.string ⟨#[]⟩, .string ⟨#[]⟩, .agg (nums (List.replicate 20 0))], []⟩ 8 (by kernel_rfl) (by kernel_rfl) (by kernel_rfl) (by kernel_rfl))
    (fun W base args ds p hval hA => by
      rw [Try.params3] at hA hval
      obtain ⟨v0, v1, v2, d0, d1, d2, p0, p1, p2, rfl, rfl, rfl, h0, h1, h2⟩ := trodAll_three hA
      obtain ⟨t, rfl, -, -, ht⟩ := open_string Try.underlying9 (hval 0 9 v0 rfl rfl) h0
      obtain ⟨s, rfl, -, -, hs⟩ := open_string Try.underlying9 (hval 1 9 v1 rfl rfl) h1
      obtain ⟨ms, rfl, hml, hms⟩ := open_spans (hval 2 23 v2 rfl rfl) h2
      exact (by rw [← tx_of t, ← tx_of s]; exact templatesTell_law t.data.toList s.data.toList ms W hml (by simp; exact ht) (by simp; exact hs)))

theorem templatesTell_holds : Rows.TemplatesTellSaid :=
  OpenClaim.holds_of_wide 3 Try.f3 rfl rfl rfl rfl rfl rfl rfl ⟨rfl, rfl, rfl, rfl, rfl⟩ rfl rfl rfl rfl rfl (by kernel_rfl) Try.func3 (by kernel_rfl)
    (of_decide_eq_true (by kernel_rfl)) (by unfold Func.isWrapper; first | (rw [if_pos (by decide +kernel)]; kernel_rfl) | (rw [if_neg (by decide +kernel)]; exact ⟨rfl, rfl⟩))
    (fun os started H enc _ => templatesTell_lifted os started H enc)

#print axioms templatesTell_holds
end Go.Proofs.Ytdgahppgpldnpaa
