/-
  The law TemplatesCut, said of its row.
  TemplatesCut returns true for every text and every byte; its arguments read as they did.
-/
import Derived.Test.YtdgahppgpldnpaaTplCut
import Derived.Test.YtdgahppgpldnpaaLaw
import Derived.Test.YtdgahppgpldnpaaOpen
namespace Go.Proofs.Ytdgahppgpldnpaa
open Go.ChangeShapes Go.WideShapes Go.ChangeAt Go.RowKit Go.Joins Go.ChangeMaps

set_option maxRecDepth 100000 in
theorem templatesCut_lifted (os : Os) (started : os.Started) (H : Type) (enc : TypeId × Value → H) :
    ReturnsInHanded {} Try.checked os 8 .any (Rows.templatesCutSpec.pre6 enc Try.prog Try.f8 Rows.templatesCutRow.domain false) (Rows.templatesCutSpec.post enc Try.prog Try.f8 false true false false) :=
  law_lifted (s := Rows.templatesCutSpec) started (by kernel_rfl) Try.func8 rfl (by kernel_rfl) (by kernel_rfl)
    (fun ds h => by
      rw [show Try.f8.params.size = 2 by kernel_rfl] at h
      match ds, h with
      | [_, _], _ => rfl)
    (ChangeSpec.witness6 (enc := enc) (C := Try.checked) false ⟨#[], #[.string ⟨#[]⟩, .int .u8 0], []⟩ 8 (by kernel_rfl) (by kernel_rfl) (by kernel_rfl) (by kernel_rfl))
    (fun W base args ds p hval hA => by
      rw [Try.params8] at hA hval
      obtain ⟨v0, v1, d0, d1, p0, p1, rfl, rfl, rfl, h0, h1⟩ := trodAll_two hA
      obtain ⟨t, rfl, -, -, ht⟩ := open_string Try.underlying9 (hval 0 9 v0 rfl rfl) h0
      obtain ⟨c, rfl, -, -, hc⟩ := open_int Try.underlying5 (hval 1 5 v1 rfl rfl) h1
      exact (by have h := u8_wf hc; rw [← tx_of t]; exact templatesCut_law t.data.toList (UInt8.ofNat c.toNat) c W (by simp; exact ht) (by simp; omega)))

theorem templatesCut_holds : Rows.TemplatesCutSaid :=
  OpenClaim.holds_of_wide 8 Try.f8 rfl rfl rfl rfl rfl rfl rfl ⟨rfl, rfl, rfl, rfl, rfl⟩ rfl rfl rfl rfl rfl (by kernel_rfl) Try.func8 (by kernel_rfl)
    (of_decide_eq_true (by kernel_rfl)) (by unfold Func.isWrapper; first | (rw [if_pos (by decide +kernel)]; kernel_rfl) | (rw [if_neg (by decide +kernel)]; exact ⟨rfl, rfl⟩))
    (fun os started H enc _ => templatesCut_lifted os started H enc)

#print axioms templatesCut_holds
end Go.Proofs.Ytdgahppgpldnpaa
