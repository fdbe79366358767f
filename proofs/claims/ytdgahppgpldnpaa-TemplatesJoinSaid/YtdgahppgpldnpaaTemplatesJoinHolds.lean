/-
  The law TemplatesJoin, said of its row.
  TemplatesJoin returns true for every three texts; its arguments read as they did.
-/
import Derived.Test.YtdgahppgpldnpaaTplJoin
import Derived.Test.YtdgahppgpldnpaaLaw
import Derived.Test.YtdgahppgpldnpaaOpen
namespace Go.Proofs.Ytdgahppgpldnpaa
open Go.ChangeShapes Go.WideShapes Go.ChangeAt Go.RowKit Go.Joins Go.ChangeMaps

set_option maxRecDepth 100000 in
theorem templatesJoin_lifted (os : Os) (started : os.Started) (H : Type) (enc : TypeId × Value → H) :
    ReturnsInHanded {} Try.checked os 5 .any (Rows.templatesJoinSpec.pre6 enc Try.prog Try.f5 Rows.templatesJoinRow.domain false) (Rows.templatesJoinSpec.post enc Try.prog Try.f5 false true false false) :=
  law_lifted (s := Rows.templatesJoinSpec) started (by kernel_rfl) Try.func5 rfl (by kernel_rfl) (by kernel_rfl)
    (fun ds h => by
      rw [show Try.f5.params.size = 3 by kernel_rfl] at h
      match ds, h with
      | [_, _, _], _ => rfl)
    (ChangeSpec.witness6 (enc := enc) (C := Try.checked) false ⟨#[], #[.string ⟨#[]⟩, .string ⟨#[]⟩, .string ⟨#[]⟩], []⟩ 8 (by kernel_rfl) (by kernel_rfl) (by kernel_rfl) (by kernel_rfl))
    (fun W base args ds p hval hA => by
      rw [Try.params5] at hA hval
      obtain ⟨v0, v1, v2, d0, d1, d2, p0, p1, p2, rfl, rfl, rfl, h0, h1, h2⟩ := trodAll_three hA
      obtain ⟨a, rfl, -, -, ha⟩ := open_string Try.underlying9 (hval 0 9 v0 rfl rfl) h0
      obtain ⟨b, rfl, -, -, hb⟩ := open_string Try.underlying9 (hval 1 9 v1 rfl rfl) h1
      obtain ⟨s, rfl, -, -, hs⟩ := open_string Try.underlying9 (hval 2 9 v2 rfl rfl) h2
      exact (by rw [← tx_of a, ← tx_of b, ← tx_of s]; exact templatesJoin_law a.data.toList b.data.toList s.data.toList W (by simp; exact ha) (by simp; exact hb) (by simp; exact hs)))

theorem templatesJoin_holds : Rows.TemplatesJoinSaid :=
  OpenClaim.holds_of_wide 5 Try.f5 rfl rfl rfl rfl rfl rfl rfl ⟨rfl, rfl, rfl, rfl, rfl⟩ rfl rfl rfl rfl rfl (by kernel_rfl) Try.func5 (by kernel_rfl)
    (of_decide_eq_true (by kernel_rfl)) (by unfold Func.isWrapper; first | (rw [if_pos (by decide +kernel)]; kernel_rfl) | (rw [if_neg (by decide +kernel)]; exact ⟨rfl, rfl⟩))
    (fun os started H enc _ => templatesJoin_lifted os started H enc)

#print axioms templatesJoin_holds
end Go.Proofs.Ytdgahppgpldnpaa
