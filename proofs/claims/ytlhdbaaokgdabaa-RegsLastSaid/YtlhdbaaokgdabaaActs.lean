/-
  Chapter 17: texts of registers, and lists of acts, that come in as arguments, opened.
-/
import Derived.Test.YtlhdbaaokgdabaaCame
import Derived.Test.YtlhdbaaokgdabaaRegsMem
namespace Go.Proofs.Ytlhdbaaokgdabaa
open Go.ChangeShapes Go.WideShapes Go.ChangeAt Go.RowKit Go.Joins

/-- An act in memory. -/
structure ActC where
  kind : Int
  letter : Int
  A : Option Addr
  cap : Nat
  x : Rg
def ActC.cells (s : ActC) : List Value := [.int .u8 s.kind, .int .u8 s.letter, .slice s.A s.x.d.length s.cap, .bool s.x.whole]
structure ActC.ok (w : World) (s : ActC) : Prop where
  kind : 0 ≤ s.kind ∧ s.kind ≤ 255
  letter : 0 ≤ s.letter ∧ s.letter ≤ 255
  came : Came w s.A s.cap s.x.d
theorem act_cells (L : List ActC) : ∀ (k : Nat) (h : k < L.length), (L.flatMap ActC.cells)[k * 4]? = some (.int .u8 L[k].kind) ∧ (L.flatMap ActC.cells)[k * 4 + 1]? = some (.int .u8 L[k].letter) ∧ (L.flatMap ActC.cells)[k * 4 + 2]? = some (.slice L[k].A L[k].x.d.length L[k].cap) ∧ (L.flatMap ActC.cells)[k * 4 + 3]? = some (.bool L[k].x.whole) := by
  induction L with
  | nil => intro k h; simp at h
  | cons s L ih =>
    intro k h
    match k with
    | 0 => simp [ActC.cells]
    | k + 1 =>
      have := ih k (by simpa using h)
      have e : (k + 1) * 4 = k * 4 + 4 := by omega
      simpa [ActC.cells, e] using this
/-- A list of acts that came in. -/
structure CameActs (w : World) (A : Option Addr) (cap : Nat) (L : List ActC) : Prop where
  rd : Rd w 4 A L.length (L.flatMap ActC.cells)
  len : L.length ≤ 9223372036854775807
  each : ∀ s ∈ L, s.ok w
/-- The cells of one of them, where they lie. -/
theorem Rd.act {w : World} {A : Option Addr} {L : List ActC} (h : Rd w 4 A L.length (L.flatMap ActC.cells)) (k : Nat) (hk : k < L.length) : ∃ b o, A = some ⟨b, o, none⟩ ∧ b < w.heap.size ∧ w.cell? ⟨b, o + k * 4, none⟩ = some (.int .u8 L[k].kind) ∧ w.cell? ⟨b, o + k * 4 + 1, none⟩ = some (.int .u8 L[k].letter) ∧ w.cell? ⟨b, o + k * 4 + 2, none⟩ = some (.slice L[k].A L[k].x.d.length L[k].cap) ∧ w.cell? ⟨b, o + k * 4 + 3, none⟩ = some (.bool L[k].x.whole) := by
  obtain ⟨b, o, rfl, hb, hc⟩ := h.2 (by omega)
  obtain ⟨h0, h1, h2, h3⟩ := act_cells L k hk
  exact ⟨b, o, rfl, hb, hc _ _ h0, by rw [Nat.add_assoc]; exact hc _ _ h1, by rw [Nat.add_assoc]; exact hc _ _ h2, by rw [Nat.add_assoc]; exact hc _ _ h3⟩
section
variable {H : Type} {enc : TypeId × Value → H} {W : World} {base b0 : Nat} {spare : Nat → Bool} {held : Bool}
theorem open_reg_cells {m : Nat} {cs : List Value} {y : DataW H × List MemPlace} (h : DataW.trod enc Try.prog W base spare held m 25 cs = some y) :
    ∃ (A : Option Addr) (cap : Nat) (x : Rg), cs = [.slice A x.d.length cap, .bool x.whole] ∧ Came W A cap x.d := by
  obtain ⟨hlen, n, hf⟩ := open_fields Try.underlying25 (by kernel_rfl) (by kernel_rfl) h
  match cs, hlen with
  | [c0, c1], _ =>
    obtain ⟨x0, _, g0, h0⟩ := hf 0 _ rfl
    obtain rfl : c0 = x0 := by simpa using g0
    obtain ⟨x1, _, g1, h1⟩ := hf 1 _ rfl
    obtain rfl : c1 = x1 := by simpa using g1
    obtain ⟨A, cap, l, q0, hl⟩ := open_lines_cell h0
    obtain ⟨b, q1, _⟩ := DataW.trod_bool Try.underlying4 h1
    simp only [List.cons.injEq, and_true] at q1
    exact ⟨A, cap, ⟨l, b⟩, by rw [q0, q1], hl⟩
theorem open_reg {v : Value} {d : DataW H} {p : List MemPlace} (hv : Value.okWide Try.prog W .any b0 25 v) (h : DataW.Trod enc Try.prog W base spare held 25 v d p) :
    ∃ (A : Option Addr) (cap : Nat) (x : Rg), v = .agg #[.slice A x.d.length cap, .bool x.whole] ∧ Came W A cap x.d := by
  simp only [Value.okWide, Try.underlying25] at hv
  obtain ⟨cs, rfl, hsz, _⟩ := hv
  obtain ⟨fuel, hf⟩ := h
  obtain ⟨A, cap, x, e, hx⟩ := open_reg_cells hf
  refine ⟨A, cap, x, ?_, hx⟩
  have e' : cs.toList = [.slice A x.d.length cap, .bool x.whole] := by simpa [Value.cells] using e
  rw [← Array.toArray_toList (xs := cs), e']
theorem open_act {m : Nat} {cs : List Value} {y : DataW H × List MemPlace} (h : DataW.trod enc Try.prog W base spare held m 37 cs = some y) : ∃ s : ActC, cs = s.cells ∧ s.ok W := by
  obtain ⟨xs, n, _, _, hlen, hxl, hf⟩ := DataW.trod_struct Try.underlying37 h
  rw [show Try.prog.cellsOf 37 = 4 by kernel_rfl] at hlen
  have hx : ∀ i, i < 3 → ∃ y, xs[i]? = some y := fun i hi => ⟨_, List.getElem?_eq_getElem (by rw [hxl]; exact hi)⟩
  obtain ⟨y0, e0⟩ := hx 0 (by omega)
  obtain ⟨y1, e1⟩ := hx 1 (by omega)
  obtain ⟨y2, e2⟩ := hx 2 (by omega)
  match cs, hlen with
  | [c0, c1, c2, c3], _ =>
    have h0 : DataW.trod enc Try.prog W base spare held n 5 (([c0, c1, c2, c3].drop 0).take (Try.prog.cellsOf 5)) = xs[0]? := hf 0 _ rfl
    have h1 : DataW.trod enc Try.prog W base spare held n 5 (([c0, c1, c2, c3].drop 1).take (Try.prog.cellsOf 5)) = xs[1]? := hf 1 _ rfl
    have h2 : DataW.trod enc Try.prog W base spare held n 25 (([c0, c1, c2, c3].drop 2).take (Try.prog.cellsOf 25)) = xs[2]? := hf 2 _ rfl
    rw [show Try.prog.cellsOf 5 = 1 by kernel_rfl, e0] at h0
    rw [show Try.prog.cellsOf 5 = 1 by kernel_rfl, e1] at h1
    rw [show Try.prog.cellsOf 25 = 2 by kernel_rfl, e2] at h2
    obtain ⟨a, q0, _, wa⟩ := DataW.trod_int Try.underlying5 h0
    obtain ⟨b, q1, _, wb⟩ := DataW.trod_int Try.underlying5 h1
    obtain ⟨A, cap, x, q2, hl⟩ := open_reg_cells h2
    have q0' : c0 = .int .u8 a := by simpa using q0
    have q1' : c1 = .int .u8 b := by simpa using q1
    have q2' : c2 = .slice A x.d.length cap ∧ c3 = .bool x.whole := by simpa using q2
    obtain ⟨q2', q3'⟩ := q2'
    exact ⟨⟨a, b, A, cap, x⟩, by rw [q0', q1', q2', q3']; rfl, ⟨u8_wf wa, u8_wf wb, hl⟩⟩
/-- A list of acts. -/
theorem open_acts {v : Value} {d : DataW H} {p : List MemPlace} (hv : Value.okWide Try.prog W .any b0 22 v) (h : DataW.Trod enc Try.prog W base spare held 22 v d p) :
    ∃ (A : Option Addr) (L : List ActC) (cap : Nat), v = .slice A L.length cap ∧ CameActs W A cap L := by
  obtain ⟨a, len, cap, rfl⟩ := okWide_slice Try.underlying22 hv
  obtain ⟨fuel, hf⟩ := h
  obtain ⟨A, n, cap, css, hcs, h1, h2, h3, h4, h5⟩ := open_rows Try.underlying22 (show Try.prog.cellsOf 37 = 4 by kernel_rfl) (by omega) hf
  have key : ∀ css : List (List Value), (∀ c ∈ css, c.length = 4 ∧ ∃ m y, DataW.trod enc Try.prog W base spare held m 37 c = some y) →
      ∃ L : List ActC, L.length = css.length ∧ css.flatten = L.flatMap ActC.cells ∧ ∀ s ∈ L, s.ok W := by
    intro css
    induction css with
    | nil => intro _; exact ⟨[], rfl, rfl, by simp⟩
    | cons c css ih =>
      intro hc
      obtain ⟨L, e1, e2, e3⟩ := ih (fun x hx => hc x (by simp [hx]))
      obtain ⟨_, m, y, hy⟩ := hc c (by simp)
      obtain ⟨s, rfl, hs⟩ := open_act hy
      refine ⟨s :: L, by simp [e1], by simp [e2], fun x hx => ?_⟩
      rcases List.mem_cons.1 hx with rfl | hx
      · exact hs
      · exact e3 x hx
  obtain ⟨L, e1, e2, e3⟩ := key css h4
  have hn : n = L.length := by omega
  subst hn
  simp [Value.cells] at hcs
  obtain ⟨rfl, rfl, rfl⟩ := hcs
  unfold maxLen at h2
  exact ⟨a, L, cap, rfl, by rw [← e2]; exact h5, by omega, e3⟩
end
end Go.Proofs.Ytlhdbaaokgdabaa
