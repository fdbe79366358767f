/-
  Chapter 10: lists of atoms that come in as arguments, opened.
-/
import Derived.Test.YtnjagecmhdagkaaDoorPk39
set_option linter.unusedSimpArgs false
set_option linter.unusedVariables false
namespace Go.Proofs.YtnjagecmhdagkaaDoor
open Go.ChangeShapes Go.WideShapes Go.ChangeAt Go.RowKit Go.Joins

/-- An atom in memory. -/
structure Atom3 where
  c : Nat
  any : Bool
  star : Bool
def Atom3.cells (s : Atom3) : List Value := [.int .u8 (s.c : Int), .bool s.any, .bool s.star]
set_option maxRecDepth 3000 in
theorem atom_cells (L : List Atom3) : ∀ (k : Nat) (h : k < L.length), (L.flatMap Atom3.cells)[k * 3]? = some (.int .u8 (L[k].c : Int)) ∧ (L.flatMap Atom3.cells)[k * 3 + 1]? = some (.bool L[k].any) ∧ (L.flatMap Atom3.cells)[k * 3 + 2]? = some (.bool L[k].star) := by
  induction L with
  | nil => intro k h; simp at h
  | cons s L ih =>
    intro k h
    match k with
    | 0 => simp [Atom3.cells]
    | k + 1 =>
      have := ih k (by simpa using h)
      have e : (k + 1) * 3 = k * 3 + 3 := by omega
      simpa [Atom3.cells, e] using this
/-- A list of atoms that came in. -/
structure CameAtoms (w : World) (A : Option Addr) (cap : Nat) (L : List Atom3) : Prop where
  rd : Rd w 3 A L.length (L.flatMap Atom3.cells)
  len : L.length ≤ 9223372036854775807
  each : ∀ s ∈ L, s.c ≤ 255
  nil : A = none → L.length = 0 ∧ cap = 0
set_option maxRecDepth 3000 in
theorem CameAtoms.grows {w w' : World} {A : Option Addr} {cap : Nat} {L : List Atom3} (h : CameAtoms w A cap L) (hg : Grows w w') : CameAtoms w' A cap L := ⟨h.1.grows hg, h.2, h.3, h.4⟩
set_option maxRecDepth 3000 in
theorem CameAtoms.at_ {w : World} {A : Option Addr} {cap : Nat} {L : List Atom3} (h : CameAtoms w A cap L) (k : Nat) (hk : k < L.length) : ∃ b o, A = some ⟨b, o, none⟩ ∧ b < w.heap.size ∧ w.cell? ⟨b, o + k * 3, none⟩ = some (.int .u8 (L[k].c : Int)) ∧ w.cell? ⟨b, o + k * 3 + 1, none⟩ = some (.bool L[k].any) ∧ w.cell? ⟨b, o + k * 3 + 2, none⟩ = some (.bool L[k].star) := by
  obtain ⟨b, o, rfl, hb, hc⟩ := h.rd.2 (by omega)
  obtain ⟨h0, h1, h2⟩ := atom_cells L k hk
  exact ⟨b, o, rfl, hb, hc _ _ h0, by rw [Nat.add_assoc]; exact hc _ _ h1, by rw [Nat.add_assoc]; exact hc _ _ h2⟩
section
variable {H : Type} {enc : TypeId × Value → H} {W : World} {base b0 : Nat} {spare : Nat → Bool} {held : Bool}
set_option maxRecDepth 3000 in
theorem open_atom {m : Nat} {cs : List Value} {y : DataW H × List MemPlace} (h : DataW.trod enc Tryd.prog W base spare held m 69 cs = some y) : ∃ s : Atom3, cs = s.cells ∧ s.c ≤ 255 := by
  obtain ⟨hlen, n, hf⟩ := open_fields Tryd.underlying69 (by kernel_rfl) (by kernel_rfl) h
  match cs, hlen with
  | [c0, c1, c2], _ =>
    obtain ⟨x0, _, g0, h0⟩ := hf 0 _ rfl
    obtain rfl : c0 = x0 := by simpa using g0
    obtain ⟨x1, _, g1, h1⟩ := hf 1 _ rfl
    obtain rfl : c1 = x1 := by simpa using g1
    obtain ⟨x2, _, g2, h2⟩ := hf 2 _ rfl
    obtain rfl : c2 = x2 := by simpa using g2
    obtain ⟨a, q0, _, wa⟩ := DataW.trod_int Tryd.underlying5 h0
    obtain ⟨b, q1, _⟩ := DataW.trod_bool Tryd.underlying4 h1
    obtain ⟨d, q2, _⟩ := DataW.trod_bool Tryd.underlying4 h2
    simp only [List.cons.injEq, and_true] at q0 q1 q2
    have := u8_wf wa
    exact ⟨⟨a.toNat, b, d⟩, by rw [q0, q1, q2]; unfold Atom3.cells; simp only []; rw [Int.toNat_of_nonneg (by omega)], by simp only []; omega⟩
set_option maxRecDepth 3000 in
/-- A list of atoms, as cells. -/
theorem open_atoms_cell {m : Nat} {c : Value} {y : DataW H × List MemPlace} (hf : DataW.trod enc Tryd.prog W base spare held m 32 [c] = some y) :
    ∃ (A : Option Addr) (L : List Atom3) (cap : Nat), c = .slice A L.length cap ∧ CameAtoms W A cap L := by
  obtain ⟨A, n, cap, css, hcs, h1, h2, h3, h4, h5⟩ := open_rows Tryd.underlying32 (show Tryd.prog.cellsOf 69 = 3 by kernel_rfl) (by omega) hf
  have key : ∀ css : List (List Value), (∀ c ∈ css, c.length = 3 ∧ ∃ m y, DataW.trod enc Tryd.prog W base spare held m 69 c = some y) →
      ∃ L : List Atom3, L.length = css.length ∧ css.flatten = L.flatMap Atom3.cells ∧ ∀ s ∈ L, s.c ≤ 255 := by
    intro css
    induction css with
    | nil => intro _; exact ⟨[], rfl, rfl, by simp⟩
    | cons c css ih =>
      intro hc
      obtain ⟨L, e1, e2, e3⟩ := ih (fun x hx => hc x (by simp [hx]))
      obtain ⟨_, m, y, hy⟩ := hc c (by simp)
      obtain ⟨s, rfl, hs⟩ := open_atom hy
      refine ⟨s :: L, by simp [e1], by simp [e2], fun x hx => ?_⟩
      rcases List.mem_cons.1 hx with rfl | hx
      · exact hs
      · exact e3 x hx
  obtain ⟨L, e1, e2, e3⟩ := key css h4
  have hn : n = L.length := by omega
  subst hn
  have hnil : A = none → L.length = 0 ∧ cap = 0 := by
    intro ha
    rcases DataW.trod_slice Tryd.underlying32 hf with ⟨e, _⟩ | ⟨ad, _, _, _, _, _, _, e, _⟩
    · rw [e] at hcs
      simp at hcs
      exact ⟨by have := hcs.2.1; omega, hcs.2.2.symm⟩
    · rw [e] at hcs
      simp at hcs
      rw [ha] at hcs
      cases hcs.1
  simp at hcs
  unfold maxLen at h2
  exact ⟨A, L, cap, hcs, ⟨by rw [← e2]; exact h5, by omega, e3, hnil⟩⟩
set_option maxRecDepth 3000 in
theorem open_atoms {v : Value} {d : DataW H} {p : List MemPlace} (hv : Value.okWide Tryd.prog W .any b0 32 v) (h : DataW.Trod enc Tryd.prog W base spare held 32 v d p) :
    ∃ (A : Option Addr) (L : List Atom3) (cap : Nat), v = .slice A L.length cap ∧ CameAtoms W A cap L := by
  obtain ⟨a, len, cap, rfl⟩ := okWide_slice Tryd.underlying32 hv
  obtain ⟨fuel, hf⟩ := h
  simp only [Value.cells] at hf
  exact open_atoms_cell hf
end
end Go.Proofs.YtnjagecmhdagkaaDoor
