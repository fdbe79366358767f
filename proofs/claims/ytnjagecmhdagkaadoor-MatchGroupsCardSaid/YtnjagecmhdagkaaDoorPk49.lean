/-
  Arrays that come in as arguments, opened: of elements of one cell each.
-/
import Derived.Test.YtnjagecmhdagkaaDoorPk44
set_option linter.unusedSimpArgs false
set_option linter.unusedVariables false
namespace Go.Proofs.YtnjagecmhdagkaaDoor
open Go.ChangeShapes Go.WideShapes Go.ChangeAt Go.RowKit Go.Joins

section
variable {H : Type} {enc : TypeId × Value → H} {W : World} {base b0 : Nat} {spare : Nat → Bool} {held : Bool}
set_option maxRecDepth 3000 in
theorem open_arr {t e : TypeId} {n : Nat} {v : Value} {d : DataW H} {p : List MemPlace} (ht : Tryd.prog.underlying t = some (.array n e)) (hc : Tryd.prog.cellsOf e = 1) (hn : Tryd.prog.cellsOf t = n)
    (hv : Value.okWide Tryd.prog W .any b0 t v) (h : DataW.Trod enc Tryd.prog W base spare held t v d p) : ∃ cs : List Value, v = .agg cs.toArray ∧ cs.length = n ∧ ∀ i (hi : i < cs.length), ∃ m y, DataW.trod enc Tryd.prog W base spare held m e [cs[i]] = some y := by
  simp only [Value.okWide, ht] at hv
  obtain ⟨cs, rfl, hsz, _⟩ := hv
  obtain ⟨fuel, hf⟩ := h
  obtain ⟨xs, m, _, _, hlen, _, hi⟩ := DataW.trod_array ht hf
  refine ⟨cs.toList, by simp, by simp; omega, fun i hil => ?_⟩
  have hin : i < n := by simp at hil; omega
  have h1 := hi i hin
  rw [hc, Nat.mul_one] at h1
  have h2 : ((Value.agg cs).cells.toList.drop i).take 1 = [cs.toList[i]] := by
    show (cs.toList.drop i).take 1 = _
    rw [List.drop_eq_getElem_cons hil]
    rfl
  rw [h2] at h1
  have h3 : xs[i]? = some (xs[i]'(by omega)) := List.getElem?_eq_getElem (by omega)
  rw [h3] at h1
  exact ⟨m, _, h1⟩
set_option maxRecDepth 3000 in
theorem open_two8 {v : Value} {d : DataW H} {p : List MemPlace} (hv : Value.okWide Tryd.prog W .any b0 43 v) (h : DataW.Trod enc Tryd.prog W base spare held 43 v d p) :
    ∃ a b : Nat, v = .agg #[.int .u8 a, .int .u8 b] ∧ a ≤ 255 ∧ b ≤ 255 := by
  obtain ⟨cs, rfl, hl, hc⟩ := open_arr (n := 2) Tryd.underlying43 (by kernel_rfl) (by kernel_rfl) hv h
  match cs, hl with
  | [a, b], _ =>
    obtain ⟨m1, y1, t1⟩ := hc 0 (by simp)
    obtain ⟨m2, y2, t2⟩ := hc 1 (by simp)
    obtain ⟨x, q1, _, w1⟩ := DataW.trod_int Tryd.underlying5 t1
    obtain ⟨y, q2, _, w2⟩ := DataW.trod_int Tryd.underlying5 t2
    simp at q1 q2
    have e1 := u8_wf w1
    have e2 := u8_wf w2
    exact ⟨x.toNat, y.toNat, by rw [q1, q2, Int.toNat_of_nonneg (by omega), Int.toNat_of_nonneg (by omega)], by omega, by omega⟩
set_option maxRecDepth 3000 in
theorem open_three {v : Value} {d : DataW H} {p : List MemPlace} (hv : Value.okWide Tryd.prog W .any b0 40 v) (h : DataW.Trod enc Tryd.prog W base spare held 40 v d p) :
    ∃ (A B C : Option Addr) (l m n : List Atom3) (ca cb cc : Nat), v = .agg #[.slice A l.length ca, .slice B m.length cb, .slice C n.length cc] ∧ CameAtoms W A ca l ∧ CameAtoms W B cb m ∧ CameAtoms W C cc n := by
  obtain ⟨cs, rfl, hl, hc⟩ := open_arr (n := 3) Tryd.underlying40 (by kernel_rfl) (by kernel_rfl) hv h
  match cs, hl with
  | [a, b, c], _ =>
    obtain ⟨m1, y1, t1⟩ := hc 0 (by simp)
    obtain ⟨m2, y2, t2⟩ := hc 1 (by simp)
    obtain ⟨m3, y3, t3⟩ := hc 2 (by simp)
    obtain ⟨A, l, ca, q1, h1⟩ := open_atoms_cell t1
    obtain ⟨B, m, cb, q2, h2⟩ := open_atoms_cell t2
    obtain ⟨C, n, cc, q3, h3⟩ := open_atoms_cell t3
    simp at q1 q2 q3
    exact ⟨A, B, C, l, m, n, ca, cb, cc, by rw [q1, q2, q3], h1, h2, h3⟩
end
end Go.Proofs.YtnjagecmhdagkaaDoor
