/-
  Chapter 07: lists of cuts, in memory, opened.
-/
import Derived.Test.YtblcggmbaofflaaCame
import Derived.Test.YtblcggmbaofflaaPiecesPlain
namespace Go.Proofs.Ytblcggmbaofflaa
open Go.ChangeShapes Go.WideShapes Go.ChangeAt Go.RowKit Go.Joins

/-- A cut in memory, with its lines. -/
structure Cut where
  at_ : Int
  del : Int
  A : Option Addr
  cap : Nat
  ins : List (List UInt8)
def Cut.cells (s : Cut) : List Value := [.int .i64 s.at_, .int .i64 s.del, .slice s.A s.ins.length s.cap]
structure Cut.ok (w : World) (s : Cut) : Prop where
  at_ : I64 s.at_
  del : I64 s.del
  came : Came w s.A s.cap s.ins
theorem Cut.ok.grows {w w' : World} {s : Cut} (h : s.ok w) (hg : Grows w w') : s.ok w' := ⟨h.1, h.2, h.3.grows hg⟩
theorem cut_cells (L : List Cut) : ∀ (k : Nat) (h : k < L.length), (L.flatMap Cut.cells)[k * 3]? = some (.int .i64 L[k].at_) ∧ (L.flatMap Cut.cells)[k * 3 + 1]? = some (.int .i64 L[k].del) ∧ (L.flatMap Cut.cells)[k * 3 + 2]? = some (.slice L[k].A L[k].ins.length L[k].cap) := by
  induction L with
  | nil => intro k h; simp at h
  | cons s L ih =>
    intro k h
    match k with
    | 0 => simp [Cut.cells]
    | k + 1 =>
      have := ih k (by simpa using h)
      have e : (k + 1) * 3 = k * 3 + 3 := by omega
      simpa [Cut.cells, e] using this
/-- The cells of one of them, where they lie. -/
theorem Rd.cut {w : World} {A : Option Addr} {L : List Cut} (h : Rd w 3 A L.length (L.flatMap Cut.cells)) (k : Nat) (hk : k < L.length) : ∃ b o, A = some ⟨b, o, none⟩ ∧ b < w.heap.size ∧ w.cell? ⟨b, o + k * 3, none⟩ = some (.int .i64 L[k].at_) ∧ w.cell? ⟨b, o + k * 3 + 1, none⟩ = some (.int .i64 L[k].del) ∧ w.cell? ⟨b, o + k * 3 + 2, none⟩ = some (.slice L[k].A L[k].ins.length L[k].cap) := by
  obtain ⟨b, o, rfl, hb, hc⟩ := h.2 (by omega)
  obtain ⟨h0, h1, h2⟩ := cut_cells L k hk
  exact ⟨b, o, rfl, hb, hc _ _ h0, by rw [Nat.add_assoc]; exact hc _ _ h1, by rw [Nat.add_assoc]; exact hc _ _ h2⟩
/-- A list of cuts that came in. -/
structure CameCuts (w : World) (A : Option Addr) (cap : Nat) (L : List Cut) : Prop where
  rd : Rd w 3 A L.length (L.flatMap Cut.cells)
  len : L.length ≤ 9223372036854775807
  each : ∀ s ∈ L, s.ok w
theorem CameCuts.grows {w w' : World} {A : Option Addr} {cap : Nat} {L : List Cut} (h : CameCuts w A cap L) (hg : Grows w w') : CameCuts w' A cap L := ⟨h.1.grows hg, h.2, fun s hs => (h.3 s hs).grows hg⟩

section
variable {H : Type} {enc : TypeId × Value → H} {W : World} {base b0 : Nat} {spare : Nat → Bool} {held : Bool}
theorem open_cut3 {c0 c1 c2 : Value} {n : Nat} {z0 z1 z2 : DataW H × List MemPlace} (h0 : DataW.trod enc Try.prog W base spare held n 3 [c0] = some z0) (h1 : DataW.trod enc Try.prog W base spare held n 3 [c1] = some z1) (h2 : DataW.trod enc Try.prog W base spare held n 22 [c2] = some z2) :
    ∃ s : Cut, [c0, c1, c2] = s.cells ∧ s.ok W := by
  obtain ⟨a, q0, _, wa⟩ := DataW.trod_int Try.underlying3 h0
  obtain ⟨b, q1, _, wb⟩ := DataW.trod_int Try.underlying3 h1
  obtain ⟨A, cap, l, q2, hl⟩ := open_lines_cell h2
  simp only [List.cons.injEq, and_true] at q0 q1
  exact ⟨⟨a, b, A, cap, l⟩, by rw [q0, q1, q2]; rfl, ⟨i64_wf wa, i64_wf wb, hl⟩⟩
theorem open_cut {m : Nat} {cs : List Value} {y : DataW H × List MemPlace} (h : DataW.trod enc Try.prog W base spare held m 34 cs = some y) : ∃ s : Cut, cs = s.cells ∧ s.ok W := by
  obtain ⟨hlen, n, hf⟩ := open_fields Try.underlying34 (by kernel_rfl) (by kernel_rfl) h
  match cs, hlen with
  | [c0, c1, c2], _ =>
    obtain ⟨x0, _, g0, h0⟩ := hf 0 _ rfl
    obtain rfl : c0 = x0 := by simpa using g0
    obtain ⟨x1, _, g1, h1⟩ := hf 1 _ rfl
    obtain rfl : c1 = x1 := by simpa using g1
    obtain ⟨x2, _, g2, h2⟩ := hf 2 _ rfl
    obtain rfl : c2 = x2 := by simpa using g2
    exact open_cut3 h0 h1 h2
theorem open_cut_val {v : Value} {d : DataW H} {p : List MemPlace} (hv : Value.okWide Try.prog W .any b0 34 v) (h : DataW.Trod enc Try.prog W base spare held 34 v d p) :
    ∃ s : Cut, v = .agg s.cells.toArray ∧ s.ok W := by
  obtain ⟨c0, c1, c2, y0, y1, y2, n, rfl, _, _, h0, h1, h2⟩ := open_agg3 Try.underlying34 (by kernel_rfl) (by kernel_rfl) hv h
  obtain ⟨s, e, hs⟩ := open_cut3 h0 h1 h2
  exact ⟨s, by rw [← e], hs⟩
/-- A list of cuts. -/
theorem open_cuts {v : Value} {d : DataW H} {p : List MemPlace} (hv : Value.okWide Try.prog W .any b0 23 v) (h : DataW.Trod enc Try.prog W base spare held 23 v d p) :
    ∃ (A : Option Addr) (L : List Cut) (cap : Nat), v = .slice A L.length cap ∧ CameCuts W A cap L := by
  obtain ⟨a, len, cap, rfl⟩ := okWide_slice Try.underlying23 hv
  obtain ⟨fuel, hf⟩ := h
  obtain ⟨A, n, cap, css, hcs, h1, h2, h3, h4, h5⟩ := open_rows Try.underlying23 (show Try.prog.cellsOf 34 = 3 by kernel_rfl) (by omega) hf
  have key : ∀ css : List (List Value), (∀ c ∈ css, c.length = 3 ∧ ∃ m y, DataW.trod enc Try.prog W base spare held m 34 c = some y) →
      ∃ L : List Cut, L.length = css.length ∧ css.flatten = L.flatMap Cut.cells ∧ ∀ s ∈ L, s.ok W := by
    intro css
    induction css with
    | nil => intro _; exact ⟨[], rfl, rfl, by simp⟩
    | cons c css ih =>
      intro hc
      obtain ⟨L, e1, e2, e3⟩ := ih (fun x hx => hc x (by simp [hx]))
      obtain ⟨_, m, y, hy⟩ := hc c (by simp)
      obtain ⟨s, rfl, hs⟩ := open_cut hy
      refine ⟨s :: L, by simp [e1], by simp [e2], fun x hx => ?_⟩
      rcases List.mem_cons.1 hx with rfl | hx
      · exact hs
      · exact e3 x hx
  obtain ⟨L, e1, e2, e3⟩ := key css h4
  have hn : n = L.length := by omega
  subst hn
  simp [Value.cells] at hcs
  obtain ⟨rfl, rfl, rfl⟩ := hcs
  unfold maxLen at h2
  exact ⟨a, L, cap, rfl, by rw [← e2]; exact h5, by omega, e3⟩
end
end Go.Proofs.Ytblcggmbaofflaa
