/-
  Several texts of the proof: Came, Cuts, PiecesDoes.
-/
import Derived.Test.YthanghgfakibnaaPk01
import Derived.Test.YthanghgfakibnaaPk12
import Derived.Test.YthanghgfakibnaaPk03
import Derived.Test.YthanghgfakibnaaPk10
import Derived.Test.YthanghgfakibnaaPk11
/-
  Lists of lines that come in as arguments, or in the cells of an argument, opened.
-/
namespace Go.Proofs.Ythanghgfakibnaa
open Go.ChangeShapes Go.WideShapes Go.ChangeAt Go.RowKit Go.Joins

/-- A list of lines that came in. -/
structure Came (w : World) (A : Option Addr) (cap : Nat) (d : List (List UInt8)) : Prop where
  rd : Rd w 1 A d.length (lv d)
  nil : A = none → d.length = 0 ∧ cap = 0
  len : d.length ≤ 9223372036854775807
  each : ∀ s ∈ d, s.length ≤ 9223372036854775807
  le : d.length ≤ cap
  cap63 : cap ≤ 9223372036854775807
set_option maxRecDepth 3000 in
theorem Came.grows {w w' : World} {A : Option Addr} {cap : Nat} {d : List (List UInt8)} (h : Came w A cap d) (hg : Grows w w') : Came w' A cap d := ⟨h.rd.grows hg, h.nil, h.len, h.each, h.le, h.cap63⟩

section
variable {H : Type} {enc : TypeId × Value → H} {W : World} {base b0 : Nat} {spare : Nat → Bool} {held : Bool}
set_option maxRecDepth 3000 in
theorem open_lines_cell {c : Value} {fuel : Nat} {x : DataW H × List MemPlace} (hf : DataW.trod enc Try.prog W base spare held fuel 22 [c] = some x) :
    ∃ (A : Option Addr) (cap : Nat) (l : List (List UInt8)), c = .slice A l.length cap ∧ Came W A cap l := by
  obtain ⟨A, cap, ss, hcs, h1, h2, h3, h4⟩ := open_strs Try.underlying22 Try.underlying9 (by kernel_rfl) hf
  obtain rfl : c = .slice A ss.length cap := by simpa using hcs
  have hnil : A = none → ss.length = 0 ∧ cap = 0 := by
    intro ha
    rcases DataW.trod_slice Try.underlying22 hf with ⟨e, _⟩ | ⟨ad, _, _, _, _, _, _, e, _⟩
    · simp at e
      exact ⟨by simp [e.2.1], e.2.2⟩
    · simp at e
      rw [ha] at e
      cases e.1
  unfold maxLen at h2
  have hlv : lv (ss.map fun s => s.data.toList) = ss.map Value.string := by
    unfold lv
    rw [List.map_map, List.map_map]
    exact List.map_congr_left fun s _ => by simp [tx_of]
  refine ⟨A, cap, ss.map fun s => s.data.toList, by simp, ?_, by simpa using hnil, by simp; omega, ?_, by simpa using h1, h2⟩
  · rw [hlv]; simpa using h4
  · intro s hs
    obtain ⟨b, hb, rfl⟩ := List.mem_map.1 hs
    exact h3 b hb
set_option maxRecDepth 3000 in
theorem open_lines {v : Value} {d : DataW H} {p : List MemPlace} (hv : Value.okWide Try.prog W .any b0 22 v) (h : DataW.Trod enc Try.prog W base spare held 22 v d p) :
    ∃ (A : Option Addr) (cap : Nat) (l : List (List UInt8)), v = .slice A l.length cap ∧ Came W A cap l := by
  obtain ⟨a, len, cap, rfl⟩ := okWide_slice Try.underlying22 hv
  obtain ⟨fuel, hf⟩ := h
  exact open_lines_cell hf
end
end Go.Proofs.Ythanghgfakibnaa

/-
  Chapter 07: lists of cuts, in memory, opened.
-/
namespace Go.Proofs.Ythanghgfakibnaa
open Go.ChangeShapes Go.WideShapes Go.ChangeAt Go.RowKit Go.Joins

/-- A cut in memory, with its lines. -/
structure Cut where
  at_ : Int
  del : Int
  A : Option Addr
  cap : Nat
  ins : List (List UInt8)
def Cut.cells (s : Cut) : List Value := [.int .i64 s.at_, .int .i64 s.del, .slice s.A s.ins.length s.cap]
structure Cut.ok (w : World) (s : Cut) : Prop where
  at_ : I64 s.at_
  del : I64 s.del
  came : Came w s.A s.cap s.ins
set_option maxRecDepth 3000 in
theorem Cut.ok.grows {w w' : World} {s : Cut} (h : s.ok w) (hg : Grows w w') : s.ok w' := ⟨h.1, h.2, h.3.grows hg⟩
set_option maxRecDepth 3000 in
theorem cut_cells (L : List Cut) : ∀ (k : Nat) (h : k < L.length), (L.flatMap Cut.cells)[k * 3]? = some (.int .i64 L[k].at_) ∧ (L.flatMap Cut.cells)[k * 3 + 1]? = some (.int .i64 L[k].del) ∧ (L.flatMap Cut.cells)[k * 3 + 2]? = some (.slice L[k].A L[k].ins.length L[k].cap) := by
  induction L with
  | nil => intro k h; simp at h
  | cons s L ih =>
    intro k h
    match k with
    | 0 => simp [Cut.cells]
    | k + 1 =>
      have := ih k (by simpa using h)
      have e : (k + 1) * 3 = k * 3 + 3 := by omega
      simpa [Cut.cells, e] using this
set_option maxRecDepth 3000 in
/-- The cells of one of them, where they lie. -/
theorem Rd.cut {w : World} {A : Option Addr} {L : List Cut} (h : Rd w 3 A L.length (L.flatMap Cut.cells)) (k : Nat) (hk : k < L.length) : ∃ b o, A = some ⟨b, o, none⟩ ∧ b < w.heap.size ∧ w.cell? ⟨b, o + k * 3, none⟩ = some (.int .i64 L[k].at_) ∧ w.cell? ⟨b, o + k * 3 + 1, none⟩ = some (.int .i64 L[k].del) ∧ w.cell? ⟨b, o + k * 3 + 2, none⟩ = some (.slice L[k].A L[k].ins.length L[k].cap) := by
  obtain ⟨b, o, rfl, hb, hc⟩ := h.2 (by omega)
  obtain ⟨h0, h1, h2⟩ := cut_cells L k hk
  exact ⟨b, o, rfl, hb, hc _ _ h0, by rw [Nat.add_assoc]; exact hc _ _ h1, by rw [Nat.add_assoc]; exact hc _ _ h2⟩
/-- A list of cuts that came in. -/
structure CameCuts (w : World) (A : Option Addr) (cap : Nat) (L : List Cut) : Prop where
  rd : Rd w 3 A L.length (L.flatMap Cut.cells)
  len : L.length ≤ 9223372036854775807
  each : ∀ s ∈ L, s.ok w
set_option maxRecDepth 3000 in
theorem CameCuts.grows {w w' : World} {A : Option Addr} {cap : Nat} {L : List Cut} (h : CameCuts w A cap L) (hg : Grows w w') : CameCuts w' A cap L := ⟨h.1.grows hg, h.2, fun s hs => (h.3 s hs).grows hg⟩

section
variable {H : Type} {enc : TypeId × Value → H} {W : World} {base b0 : Nat} {spare : Nat → Bool} {held : Bool}
set_option maxRecDepth 3000 in
theorem open_cut3 {c0 c1 c2 : Value} {n : Nat} {z0 z1 z2 : DataW H × List MemPlace} (h0 : DataW.trod enc Try.prog W base spare held n 3 [c0] = some z0) (h1 : DataW.trod enc Try.prog W base spare held n 3 [c1] = some z1) (h2 : DataW.trod enc Try.prog W base spare held n 22 [c2] = some z2) :
    ∃ s : Cut, [c0, c1, c2] = s.cells ∧ s.ok W := by
  obtain ⟨a, q0, _, wa⟩ := DataW.trod_int Try.underlying3 h0
  obtain ⟨b, q1, _, wb⟩ := DataW.trod_int Try.underlying3 h1
  obtain ⟨A, cap, l, q2, hl⟩ := open_lines_cell h2
  simp only [List.cons.injEq, and_true] at q0 q1
  exact ⟨⟨a, b, A, cap, l⟩, by rw [q0, q1, q2]; rfl, ⟨i64_wf wa, i64_wf wb, hl⟩⟩
end
end Go.Proofs.Ythanghgfakibnaa

/-
  Pieces: the chapter's examples (does); the law's own Much.
-/
namespace Go.Proofs.Ythanghgfakibnaa
open Go.RowKit

set_option maxRecDepth 3000 in
theorem SpliceOut.yes {T : Tbl} {d : List (List UInt8)} {x : List (List UInt8) × Int} {w : World} {e : Ending} {w' : World} (h : SpliceOut T x w e w') (hx : x = (d, 0)) : ∃ U : Tbl, e = .returned (.tuple #[U.val, .int .i64 0]) ∧ TabOf w d U w' ∧ (∀ b, U.uses b → T.uses b ∨ w.heap.size ≤ b) ∧ U.ps.length ≤ T.ps.length + 2 := by
  subst hx
  rcases h with ⟨h, _⟩ | ⟨_, h⟩
  · exact absurd rfl h
  · exact h
set_option maxRecDepth 3000 in
theorem SpliceOut.no {T : Tbl} {c : Int} {x : List (List UInt8) × Int} {w : World} {e : Ending} {w' : World} (h : SpliceOut T x w e w') (hx : x.2 = c) (hc : c ≠ 0) : e = .returned (.tuple #[.pointer none, .int .i64 c]) ∧ Grows w w' := by
  subst hx
  rcases h with ⟨_, h⟩ | ⟨h, _⟩
  · exact h
  · exact absurd h hc
set_option maxRecDepth 3000 in
theorem splice_n (T : Tbl) (at_ del : Int) (I : Option Addr) (n ci : Nat) (ins : List (List UInt8)) (w : World) (hT : T.ok w) (hn : n = ins.length) (hI : Rd w 1 I ins.length (lv ins)) (hnI : I = none → ins.length = 0 ∧ ci = 0) (hi : ins.length ≤ 1000000) (hl : ∀ s ∈ ins, s.length ≤ 9223372036854775807) (ha : I64 at_) (hd : I64 del) :
    Calls Try.prog 42 #[T.val, .int .i64 at_, .int .i64 del, .slice I n ci] w (SpliceOut T (spliceV T.L at_ del ins) w) := by
  subst hn; exact splice_any T at_ del I ci ins w hT hI hnI hi hl ha hd
set_option maxRecDepth 3000 in
theorem new_n (A : Option Addr) (n cap : Nat) (d : List (List UInt8)) (w : World) (hn : n = d.length) (hA : Rd w 1 A d.length (lv d)) (hd : d.length ≤ 1000000) (hnil : A = none → d.length = 0 ∧ cap = 0) (hl : ∀ s ∈ d, s.length ≤ 9223372036854775807) (hok : lcheckV d = 0) :
    Calls Try.prog 46 #[.slice A n cap] w (TabNew d w) := by
  subst hn; exact pnew_any A cap d w hA hd hnil hl hok

/-- What Much answers. -/
def insSum (L : List Cut) : Nat := (L.map fun c => c.ins.length).sum
def MuchPost (L : List Cut) (w : World) (e : Ending) (w' : World) : Prop :=
  ∃ b, e = .returned (.bool b) ∧ (b = false → L.length ≤ 60 ∧ (∀ c ∈ L, c.ins.length ≤ 2100 ∧ byteSum c.ins ≤ 5000) ∧ insSum L ≤ 4000) ∧ w = w'
set_option maxRecDepth 3000 in
theorem insSum_take (L : List Cut) (k : Nat) (h : k < L.length) : insSum (L.take (k + 1)) = insSum (L.take k) + L[k].ins.length := by
  unfold insSum
  rw [List.take_add_one, List.getElem?_eq_getElem h, List.map_append, List.sum_append]
  simp
set_option maxRecDepth 3000 in
theorem insSum_le (L : List Cut) (h : ∀ c ∈ L, c.ins.length ≤ 2100 ∧ byteSum c.ins ≤ 5000) : insSum L ≤ L.length * 2100 := by
  induction L with
  | nil => simp [insSum]
  | cons c L ih =>
    have h1 := (h c (by simp)).1
    have h2 := ih (fun x hx => h x (by simp [hx]))
    simp only [insSum, List.map_cons, List.sum_cons, List.length_cons] at h2 ⊢
    omega
set_option maxRecDepth 3000 in
theorem wrap_wrap (a b : Int) : wrap64 (wrap64 a + b) = wrap64 (a + b) := by unfold wrap64; omega
set_option maxRecDepth 3000 in
theorem wrap_zero : wrap64 0 = 0 := by unfold wrap64; omega
end Go.Proofs.Ythanghgfakibnaa
