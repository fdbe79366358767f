/-
  Patterns: what the nodes of a text have, in plain words.
-/
import Derived.Test.YtkomggeionofbaaGreatDoorPk22
set_option linter.unusedSimpArgs false
set_option linter.unusedVariables false
namespace Go.Proofs.YtkomggeionofbaaGreatDoor
open Go.RowKit

/-- What a walk over nodes knows. -/
structure WS where
  groups : Nat
  ended : Nat → Bool
  refs : Bool
def orAt (p : Nat → Bool) (n : Nat) : Nat → Bool := fun i => p i || decide (i = n)
/-- A walk over nodes that finds nothing bad. -/
def GoodF : Fr → WS → WS → Prop
  | .nil, s, t => t = s
  | .cons x k r, s, t => ∃ m, ((x.kind = 7 ∧ x.n = s.groups + 1 ∧ x.n ≤ 9 ∧ ∃ m1, GoodF k { s with groups := s.groups + 1 } m1 ∧ m = { m1 with ended := orAt m1.ended x.n }) ∨
      (x.kind = 6 ∧ 1 ≤ x.n ∧ x.n ≤ 9 ∧ s.ended x.n = true ∧ k = .nil ∧ m = { s with refs := true }) ∨
      (x.kind = 8 ∧ k.len = 1 ∧ x.mn ≤ 255 ∧ -1 ≤ x.mx ∧ x.mx ≤ 255 ∧ (x.mx < 0 ∨ (x.mn : Int) ≤ x.mx) ∧ GoodF k s m) ∨
      (1 ≤ x.kind ∧ x.kind ≤ 5 ∧ k = .nil ∧ m = s)) ∧ GoodF r m t
/-- One node. -/
def GoodN (x : Nk) (s t : WS) : Prop := GoodF (Fr.one x.1 x.2) s t
set_option maxRecDepth 3000 in
theorem GoodF.one {x : NdV} {k : Fr} {s t : WS} (h : GoodF (Fr.one x k) s t) : (x.kind = 7 ∧ x.n = s.groups + 1 ∧ x.n ≤ 9 ∧ ∃ m1, GoodF k { s with groups := s.groups + 1 } m1 ∧ t = { m1 with ended := orAt m1.ended x.n }) ∨
      (x.kind = 6 ∧ 1 ≤ x.n ∧ x.n ≤ 9 ∧ s.ended x.n = true ∧ k = .nil ∧ t = { s with refs := true }) ∨
      (x.kind = 8 ∧ k.len = 1 ∧ x.mn ≤ 255 ∧ -1 ≤ x.mx ∧ x.mx ≤ 255 ∧ (x.mx < 0 ∨ (x.mn : Int) ≤ x.mx) ∧ GoodF k s t) ∨
      (1 ≤ x.kind ∧ x.kind ≤ 5 ∧ k = .nil ∧ t = s) := by
  obtain ⟨m, h, e⟩ := h
  have e : t = m := e
  subst e
  exact h
set_option maxRecDepth 3000 in
theorem GoodF.cons {x : NdV} {k r : Fr} {s m t : WS} (h : GoodN (x, k) s m) (hr : GoodF r m t) : GoodF (.cons x k r) s t := ⟨m, h.one, hr⟩
set_option maxRecDepth 3000 in
theorem GoodF.leaf {x : NdV} (h1 : 1 ≤ x.kind) (h2 : x.kind ≤ 5) (s : WS) : GoodN (x, .nil) s s := ⟨s, .inr (.inr (.inr ⟨h1, h2, rfl, rfl⟩)), rfl⟩
/-- What the parser knows is what the walk knows. -/
structure Meet (s : PS) (v : WS) : Prop where
  groups : v.groups = s.groups
  refs : v.refs = s.refs
  ended : ∀ n, 1 ≤ n → n ≤ 9 → (v.ended n = true ↔ n ≤ s.groups ∧ n ∉ s.op)
  op : ∀ n ∈ s.op, n ≤ s.groups
set_option maxRecDepth 3000 in
theorem Meet.same {s t : PS} {v : WS} (h : Meet s v) (h1 : t.groups = s.groups) (h2 : t.refs = s.refs) (h3 : t.op = s.op) : Meet t v :=
  ⟨h.groups.trans h1.symm, h.refs.trans h2.symm, by rw [h1, h3]; exact h.ended, by rw [h1, h3]; exact h.op⟩
set_option maxRecDepth 3000 in
theorem bounds_good {l : List UInt8} {b : Nat × Int × List UInt8} (h : boundsV l = some b) : b.1 ≤ 255 ∧ -1 ≤ b.2.1 ∧ b.2.1 ≤ 255 ∧ (b.2.1 < 0 ∨ (b.1 : Int) ≤ b.2.1) := by
  unfold boundsV at h
  simp only [] at h
  split at h
  · rename_i hc
    injection h with h
    subst h
    refine ⟨hc.2.2.1, ?_, hc.2.2.2.1, hc.2.2.2.2⟩
    simp only []
    unfold mostV
    split
    · split <;> simp only [] <;> omega
    · simp only []; omega
  · cases h
section
variable {row : PS → Option (Fr × PS)}
end
def ws0 : WS := ⟨0, fun _ => false, false⟩
end Go.Proofs.YtkomggeionofbaaGreatDoor
