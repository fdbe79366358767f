/-
  The law TemplatesGroups, said of its row.
  TemplatesGroups returns true for every two texts, every byte and every two numbers; its arguments read as they did.
-/
import Derived.Test.YtdgahppgpldnpaaTplGroups
import Derived.Test.YtdgahppgpldnpaaOpenPair
import Derived.Test.YtdgahppgpldnpaaLaw
import Derived.Test.YtdgahppgpldnpaaOpen
namespace Go.Proofs.Ytdgahppgpldnpaa
open Go.ChangeShapes Go.WideShapes Go.ChangeAt Go.RowKit Go.Joins Go.ChangeMaps

set_option maxRecDepth 100000 in
theorem templatesGroups_lifted (os : Os) (started : os.Started) (H : Type) (enc : TypeId × Value → H) :
    ReturnsInHanded {} Try.checked os 7 .any (Rows.templatesGroupsSpec.pre6 enc Try.prog Try.f7 Rows.templatesGroupsRow.domain false) (Rows.templatesGroupsSpec.post enc Try.prog Try.f7 false true false false) :=
  law_lifted (s := Rows.templatesGroupsSpec) started (by kernel_rfl) Try.func7 rfl (by kernel_rfl) (by kernel_rfl)
    (fun ds h => by
      rw [show Try.f7.params.size = 3 by kernel_rfl] at h
      match ds, h with
      | [_, _, _], _ => rfl)
    (ChangeSpec.witness6 (enc := enc) (C := Try.checked) false ⟨#[], #[.agg #[.string ⟨#[]⟩, .string ⟨#[]⟩], .int .u8 0, .agg #[.int .i64 0, .int .i64 0]], []⟩ 8 (by kernel_rfl) (by kernel_rfl) (by kernel_rfl) (by kernel_rfl))
    (fun W base args ds p hval hA => by
      rw [Try.params7] at hA hval
      obtain ⟨v0, v1, v2, d0, d1, d2, p0, p1, p2, rfl, rfl, rfl, h0, h1, h2⟩ := trodAll_three hA
      obtain ⟨s, a, rfl, hsl, hal⟩ := open_texts (hval 0 40 v0 rfl rfl) h0
      obtain ⟨n, rfl, -, -, hn⟩ := open_int Try.underlying5 (hval 1 5 v1 rfl rfl) h1
      obtain ⟨x, y, rfl, hx, hy⟩ := open_pair (hval 2 22 v2 rfl rfl) h2
      exact (by obtain ⟨k, rfl⟩ : ∃ k : Nat, n = k := ⟨n.toNat, by have := u8_wf hn; omega⟩; rw [← tx_of s, ← tx_of a]; exact templatesGroups_law s.data.toList a.data.toList k x y W (by simp; exact hsl) (by simp; exact hal) (by have := u8_wf hn; omega) hx hy))

theorem templatesGroups_holds : Rows.TemplatesGroupsSaid :=
  OpenClaim.holds_of_wide 7 Try.f7 rfl rfl rfl rfl rfl rfl rfl ⟨rfl, rfl, rfl, rfl, rfl⟩ rfl rfl rfl rfl rfl (by kernel_rfl) Try.func7 (by kernel_rfl)
    (of_decide_eq_true (by kernel_rfl)) (by unfold Func.isWrapper; first | (rw [if_pos (by decide +kernel)]; kernel_rfl) | (rw [if_neg (by decide +kernel)]; exact ⟨rfl, rfl⟩))
    (fun os started H enc _ => templatesGroups_lifted os started H enc)

#print axioms templatesGroups_holds
end Go.Proofs.Ytdgahppgpldnpaa
