/-
  Chapter 16: the arguments of its laws, opened.
-/
import Derived.Test.YthmfhcnminkhaaaMarksLives
import Derived.Test.YthmfhcnminkhaaaOpen
namespace Go.Proofs.Ythmfhcnminkhaaa
open Go.ChangeShapes Go.WideShapes Go.ChangeAt Go.RowKit Go.Joins

section
variable {H : Type} {enc : TypeId × Value → H} {W : World} {base b0 : Nat} {spare : Nat → Bool} {held : Bool}
/-- An array of numbers. -/
theorem open_nums {t e : TypeId} {n : Nat} {v : Value} {d : DataW H} {p : List MemPlace} (ht : Try.prog.underlying t = some (.array n e)) (he : Try.prog.underlying e = some (.int .i64)) (hc : Try.prog.cellsOf e = 1) (hn : Try.prog.cellsOf t = n)
    (hv : Value.okWide Try.prog W .any b0 t v) (h : DataW.Trod enc Try.prog W base spare held t v d p) : ∃ ms : List Int, v = .agg (MA ms) ∧ ms.length = n ∧ ∀ x ∈ ms, I64 x := by
  simp only [Value.okWide, ht] at hv
  obtain ⟨cs, rfl, hsz, _⟩ := hv
  obtain ⟨fuel, hf⟩ := h
  obtain ⟨xs, m, _, _, hlen, _, hi⟩ := DataW.trod_array ht hf
  have key : ∀ i (hi : i < cs.toList.length), ∃ x, cs.toList[i] = .int .i64 x ∧ I64 x := by
    intro i hil
    have hin : i < n := by simp at hil; omega
    have h1 := hi i hin
    rw [hc, Nat.mul_one] at h1
    have h2 : ((Value.agg cs).cells.toList.drop i).take 1 = [cs.toList[i]] := by
      show (cs.toList.drop i).take 1 = _
      rw [List.drop_eq_getElem_cons hil]
      rfl
    rw [h2] at h1
    have h3 : xs[i]? = some (xs[i]'(by omega)) := List.getElem?_eq_getElem (by omega)
    rw [h3] at h1
    obtain ⟨x, h4, _, h5⟩ := DataW.trod_int he h1
    exact ⟨x, by simpa using h4, i64_wf h5⟩
  have build : ∀ l : List Value, (∀ i (hi : i < l.length), ∃ x, l[i] = .int .i64 x ∧ I64 x) → ∃ ms : List Int, l = ms.map (Value.int .i64) ∧ ∀ x ∈ ms, I64 x := by
    intro l
    induction l with
    | nil => intro _; exact ⟨[], rfl, by simp⟩
    | cons a l ih =>
      intro hl
      obtain ⟨x, hx, hx'⟩ := hl 0 (by simp)
      obtain ⟨ms, hms, hall⟩ := ih (fun i hi => by have := hl (i + 1) (by simpa using hi); rw [List.getElem_cons_succ] at this; exact this)
      refine ⟨x :: ms, ?_, ?_⟩
      · rw [hms, List.map_cons]; congr 1
      · intro y hy
        rcases List.mem_cons.1 hy with rfl | hy
        · exact hx'
        · exact hall y hy
  obtain ⟨ms, hms, hall⟩ := build cs.toList key
  have hcs : cs = MA ms := by
    rw [← Array.toArray_toList (xs := cs), hms]; rfl
  refine ⟨ms, by rw [hcs], ?_, hall⟩
  rw [hcs] at hsz
  simpa [hn] using hsz
theorem open_splice {v : Value} {d : DataW H} {p : List MemPlace} (hv : Value.okWide Try.prog W .any b0 27 v) (h : DataW.Trod enc Try.prog W base spare held 27 v d p) :
    ∃ (at_ del : Int) (A : Option Addr) (len cap : Nat), v = .agg #[.int .i64 at_, .int .i64 del, .slice A len cap] ∧ I64 at_ ∧ I64 del ∧ len ≤ 9223372036854775807 := by
  obtain ⟨c0, c1, c2, y0, y1, y2, n, rfl, _, _, h0, h1, h2⟩ := open_agg3 Try.underlying27 (by kernel_rfl) (by kernel_rfl) hv h
  obtain ⟨a, e0, _, wa⟩ := DataW.trod_int Try.underlying3 h0
  obtain ⟨b, e1, _, wb⟩ := DataW.trod_int Try.underlying3 h1
  simp only [List.cons.injEq, and_true] at e0 e1
  subst e0 e1
  rcases DataW.trod_slice Try.underlying25 h2 with ⟨e2, _⟩ | ⟨ad, len, cap, _, _, _, _, e2, _, _, hl, hm, _⟩
  · simp only [List.cons.injEq, and_true] at e2
    subst e2
    exact ⟨a, b, none, 0, 0, rfl, i64_wf wa, i64_wf wb, by omega⟩
  · simp only [List.cons.injEq, and_true] at e2
    subst e2
    unfold maxLen at hm
    exact ⟨a, b, some ad, len, cap, rfl, i64_wf wa, i64_wf wb, by omega⟩
/-- A splice's three cells, read. -/
theorem open_spl {m : Nat} {cs : List Value} {y : DataW H × List MemPlace} (h : DataW.trod enc Try.prog W base spare held m 27 cs = some y) : ∃ s : Spl, cs = s.cells ∧ I64 s.at_ ∧ I64 s.del ∧ s.len ≤ 9223372036854775807 := by
  obtain ⟨hlen, n, hf⟩ := open_fields Try.underlying27 (by kernel_rfl) (by kernel_rfl) h
  match cs, hlen with
  | [c0, c1, c2], _ =>
    obtain ⟨x0, _, g0, h0⟩ := hf 0 _ rfl
    obtain rfl : c0 = x0 := by simpa using g0
    obtain ⟨x1, _, g1, h1⟩ := hf 1 _ rfl
    obtain rfl : c1 = x1 := by simpa using g1
    obtain ⟨x2, _, g2, h2⟩ := hf 2 _ rfl
    obtain rfl : c2 = x2 := by simpa using g2
    obtain ⟨a, q0, _, wa⟩ := DataW.trod_int Try.underlying3 h0
    obtain ⟨b, q1, _, wb⟩ := DataW.trod_int Try.underlying3 h1
    simp only [List.cons.injEq, and_true] at q0 q1
    rcases DataW.trod_slice Try.underlying25 h2 with ⟨q2, _⟩ | ⟨ad, len, cap, _, _, _, _, q2, _, _, hl, hm, _⟩
    · simp only [List.cons.injEq, and_true] at q2
      exact ⟨⟨a, b, none, 0, 0⟩, by rw [q0, q1, q2]; rfl, i64_wf wa, i64_wf wb, by simp⟩
    · simp only [List.cons.injEq, and_true] at q2
      unfold maxLen at hm
      exact ⟨⟨a, b, some ad, len, cap⟩, by rw [q0, q1, q2]; rfl, i64_wf wa, i64_wf wb, by simp; omega⟩
/-- A list of splices. -/
theorem open_spls {v : Value} {d : DataW H} {p : List MemPlace} (hv : Value.okWide Try.prog W .any b0 29 v) (h : DataW.Trod enc Try.prog W base spare held 29 v d p) :
    ∃ (A : Option Addr) (L : List Spl) (cap : Nat), v = .slice A L.length cap ∧ L.length ≤ 9223372036854775807 ∧ (∀ s ∈ L, I64 s.at_ ∧ I64 s.del ∧ s.len ≤ 9223372036854775807) ∧ Rd W 3 A L.length (L.flatMap Spl.cells) := by
  obtain ⟨a, len, cap, rfl⟩ := okWide_slice Try.underlying29 hv
  obtain ⟨fuel, hf⟩ := h
  obtain ⟨A, n, cap, css, hcs, h1, h2, h3, h4, h5⟩ := open_rows Try.underlying29 (show Try.prog.cellsOf 27 = 3 by kernel_rfl) (by omega) hf
  have key : ∀ css : List (List Value), (∀ c ∈ css, c.length = 3 ∧ ∃ m y, DataW.trod enc Try.prog W base spare held m 27 c = some y) →
      ∃ L : List Spl, L.length = css.length ∧ css.flatten = L.flatMap Spl.cells ∧ ∀ s ∈ L, I64 s.at_ ∧ I64 s.del ∧ s.len ≤ 9223372036854775807 := by
    intro css
    induction css with
    | nil => intro _; exact ⟨[], rfl, rfl, by simp⟩
    | cons c css ih =>
      intro hc
      obtain ⟨L, e1, e2, e3⟩ := ih (fun x hx => hc x (by simp [hx]))
      obtain ⟨_, m, y, hy⟩ := hc c (by simp)
      obtain ⟨s, rfl, hs⟩ := open_spl hy
      refine ⟨s :: L, by simp [e1], by simp [e2], fun x hx => ?_⟩
      rcases List.mem_cons.1 hx with rfl | hx
      · exact hs
      · exact e3 x hx
  obtain ⟨L, e1, e2, e3⟩ := key css h4
  have hn : n = L.length := by omega
  subst hn
  simp [Value.cells] at hcs
  obtain ⟨rfl, rfl, rfl⟩ := hcs
  unfold maxLen at h2
  exact ⟨a, L, cap, rfl, by omega, e3, by rw [← e2]; exact h5⟩
end
end Go.Proofs.Ythmfhcnminkhaaa
