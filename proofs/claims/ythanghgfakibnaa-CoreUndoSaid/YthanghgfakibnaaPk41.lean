/-
  Several texts of the proof: Acts, RegsBey.
-/
import Derived.Test.YthanghgfakibnaaPk13
import Derived.Test.YthanghgfakibnaaPk16
import Derived.Test.YthanghgfakibnaaPk22
import Derived.Test.YthanghgfakibnaaPk39
/-
  Chapter 17: texts of registers, and lists of acts, that come in as arguments, opened.
-/
namespace Go.Proofs.Ythanghgfakibnaa
open Go.ChangeShapes Go.WideShapes Go.ChangeAt Go.RowKit Go.Joins

/-- An act in memory. -/
structure ActC where
  kind : Int
  letter : Int
  A : Option Addr
  cap : Nat
  x : Rg
def ActC.cells (s : ActC) : List Value := [.int .u8 s.kind, .int .u8 s.letter, .slice s.A s.x.d.length s.cap, .bool s.x.whole]
structure ActC.ok (w : World) (s : ActC) : Prop where
  kind : 0 ≤ s.kind ∧ s.kind ≤ 255
  letter : 0 ≤ s.letter ∧ s.letter ≤ 255
  came : Came w s.A s.cap s.x.d
set_option maxRecDepth 3000 in
theorem act_cells (L : List ActC) : ∀ (k : Nat) (h : k < L.length), (L.flatMap ActC.cells)[k * 4]? = some (.int .u8 L[k].kind) ∧ (L.flatMap ActC.cells)[k * 4 + 1]? = some (.int .u8 L[k].letter) ∧ (L.flatMap ActC.cells)[k * 4 + 2]? = some (.slice L[k].A L[k].x.d.length L[k].cap) ∧ (L.flatMap ActC.cells)[k * 4 + 3]? = some (.bool L[k].x.whole) := by
  induction L with
  | nil => intro k h; simp at h
  | cons s L ih =>
    intro k h
    match k with
    | 0 => simp [ActC.cells]
    | k + 1 =>
      have := ih k (by simpa using h)
      have e : (k + 1) * 4 = k * 4 + 4 := by omega
      simpa [ActC.cells, e] using this
/-- A list of acts that came in. -/
structure CameActs (w : World) (A : Option Addr) (cap : Nat) (L : List ActC) : Prop where
  rd : Rd w 4 A L.length (L.flatMap ActC.cells)
  len : L.length ≤ 9223372036854775807
  each : ∀ s ∈ L, s.ok w
set_option maxRecDepth 3000 in
/-- The cells of one of them, where they lie. -/
theorem Rd.act {w : World} {A : Option Addr} {L : List ActC} (h : Rd w 4 A L.length (L.flatMap ActC.cells)) (k : Nat) (hk : k < L.length) : ∃ b o, A = some ⟨b, o, none⟩ ∧ b < w.heap.size ∧ w.cell? ⟨b, o + k * 4, none⟩ = some (.int .u8 L[k].kind) ∧ w.cell? ⟨b, o + k * 4 + 1, none⟩ = some (.int .u8 L[k].letter) ∧ w.cell? ⟨b, o + k * 4 + 2, none⟩ = some (.slice L[k].A L[k].x.d.length L[k].cap) ∧ w.cell? ⟨b, o + k * 4 + 3, none⟩ = some (.bool L[k].x.whole) := by
  obtain ⟨b, o, rfl, hb, hc⟩ := h.2 (by omega)
  obtain ⟨h0, h1, h2, h3⟩ := act_cells L k hk
  exact ⟨b, o, rfl, hb, hc _ _ h0, by rw [Nat.add_assoc]; exact hc _ _ h1, by rw [Nat.add_assoc]; exact hc _ _ h2, by rw [Nat.add_assoc]; exact hc _ _ h3⟩
section
variable {H : Type} {enc : TypeId × Value → H} {W : World} {base b0 : Nat} {spare : Nat → Bool} {held : Bool}
set_option maxRecDepth 3000 in
theorem open_reg_cells {m : Nat} {cs : List Value} {y : DataW H × List MemPlace} (h : DataW.trod enc Try.prog W base spare held m 68 cs = some y) :
    ∃ (A : Option Addr) (cap : Nat) (x : Rg), cs = [.slice A x.d.length cap, .bool x.whole] ∧ Came W A cap x.d := by
  obtain ⟨hlen, n, hf⟩ := open_fields Try.underlying68 (by kernel_rfl) (by kernel_rfl) h
  match cs, hlen with
  | [c0, c1], _ =>
    obtain ⟨x0, _, g0, h0⟩ := hf 0 _ rfl
    obtain rfl : c0 = x0 := by simpa using g0
    obtain ⟨x1, _, g1, h1⟩ := hf 1 _ rfl
    obtain rfl : c1 = x1 := by simpa using g1
    obtain ⟨A, cap, l, q0, hl⟩ := open_lines_cell h0
    obtain ⟨b, q1, _⟩ := DataW.trod_bool Try.underlying4 h1
    simp only [List.cons.injEq, and_true] at q1
    exact ⟨A, cap, ⟨l, b⟩, by rw [q0, q1], hl⟩
set_option maxRecDepth 3000 in
theorem open_reg {v : Value} {d : DataW H} {p : List MemPlace} (hv : Value.okWide Try.prog W .any b0 68 v) (h : DataW.Trod enc Try.prog W base spare held 68 v d p) :
    ∃ (A : Option Addr) (cap : Nat) (x : Rg), v = .agg #[.slice A x.d.length cap, .bool x.whole] ∧ Came W A cap x.d := by
  simp only [Value.okWide, Try.underlying68] at hv
  obtain ⟨cs, rfl, hsz, _⟩ := hv
  obtain ⟨fuel, hf⟩ := h
  obtain ⟨A, cap, x, e, hx⟩ := open_reg_cells hf
  refine ⟨A, cap, x, ?_, hx⟩
  have e' : cs.toList = [.slice A x.d.length cap, .bool x.whole] := by simpa [Value.cells] using e
  rw [← Array.toArray_toList (xs := cs), e']
end
end Go.Proofs.Ythanghgfakibnaa

/-
  Chapter 17: the laws' own bounds of acts; registers compared, all of them; new registers of the document's.
-/
namespace Go.Proofs.Ythanghgfakibnaa
open Go.RowKit

set_option maxRecDepth 3000 in
theorem beyond20 (A : Option Addr) (cap : Nat) (d : List (List UInt8)) (w : World) (hA : Rd w 1 A d.length (lv d)) (hd : d.length ≤ 9223372036854775807) (hl : ∀ s ∈ d, s.length ≤ 9223372036854775807) :
    Calls Try.prog 25 #[.slice A d.length cap, .int .i64 20] w fun e w' => e = .returned (.bool (bigL d 20)) ∧ w = w' := beyondLines_any A cap d 20 w hA hd (by omega) hl
set_option maxRecDepth 3000 in
theorem same_lit' {ok ok2 : Nat → Prop} (a : Rg) (A B : Option Addr) (ca cb : Nat) (w : World) (ha : LRd ok w A ca a.d) (hb : LRd ok2 w B cb a.d) (hl : a.d.length ≤ 1000000) : Calls Try.prog 32 #[.agg #[.slice A a.d.length ca, .bool a.whole], .agg #[.slice B a.d.length cb, .bool a.whole]] w fun e w1 => e = .returned (.bool true) ∧ Grows w w1 := by
  have := sameReg_any A B ca cb a a w ha hb hl hl
  rwa [rsame_self] at this
/-- Are acts more than is looked at? -/
def bigA (L : List ActC) (m : Nat) : Bool := decide (m < L.length) || L.any fun s => bigL s.x.d 20
set_option maxRecDepth 3000 in
theorem bigA_no {L : List ActC} {m : Nat} (h : bigA L m = false) : L.length ≤ m ∧ ∀ s ∈ L, s.x.d.length ≤ 20 ∧ ∀ t ∈ s.x.d, t.length ≤ 300 := by
  unfold bigA at h
  simp only [Bool.or_eq_false_iff, decide_eq_false_iff_not, List.any_eq_false] at h
  exact ⟨by omega, fun s hs => bigL_no (by have := h.2 s hs; simpa using this)⟩
set_option maxRecDepth 20000 in
set_option maxHeartbeats 2000000 in
/-- All registers of both have the same. -/
theorem sameRegs_any {ok ok' : Nat → Prop} (p r g : Nat) (S : RS) (w : World) (h : Regs ok w p r S) (k : RefIs ok' w g S) :
    Calls Try.prog 64 #[.pointer (some ⟨p, 0, none⟩), .pointer (some ⟨g, 0, none⟩)] w fun e w' => e = .returned (.bool true) ∧ Grows w w' := by
  have H := Lib.hid h
  have K := Lib.hid k
  clear h k
  go_enter Try.func64, Try.ntmps64
  go_wp2_with fail
  go_loopg [5] 256 (fun q i wr => ∃ c : Nat, q + c = 256 ∧ i = .int .i64 c ∧ Grows w wr)
  case atStart => exact ⟨0, rfl, rfl, Grows.refl _⟩
  case round =>
    obtain ⟨c, hq, rfl, m0, rfl⟩ := hrel
    have hQ := Lib.hid hq
    have hc9 : c ≤ 256 := by omega
    clear hq
    by_cases h1 : c < 256
    · have c1 : (c : Int) < 256 := by omega
      have hw : IntKind.u8.wrap (c : Int) = c := u8_wrap (by omega) (by omega)
      have hl : (rget S c).1.d.length ≤ 1000000 := by
        unfold rget
        cases hs : S (lowL c) with
        | none => simp [rg0]
        | some x => have := (rcheck_fits (H.out.good _ _ hs)).1; simp; omega
      have HL := Lib.hid hl
      clear hl
      go_wp2_with fail
      (with_reducible refine (get_any p r S c _ (H.out.grows (by repeat' first | exact Grows.refl _ | refine Grows.more ?_ _ | refine Grows.alloc ?_ _))).mono ?_)
      rintro e w1 ⟨A1, c1, rfl, hL1, m1, rfl⟩
      have hL1 := Lib.hid hL1
      go_wp2_with fail
      (with_reducible refine (refGet_any g S c h1 _ (K.out.grows (by repeat' first | exact Grows.refl _ | refine Grows.more ?_ _ | refine Grows.alloc ?_ _))).mono ?_)
      rintro e w2 ⟨A2, c2, rfl, hL2, m2, rfl⟩
      have hL2 := Lib.hid hL2
      generalize rget S c = x at *
      obtain ⟨x, e9⟩ := x
      go_wp2_with fail
      (with_reducible refine (same_lit' x A1 A2 _ _ _ (hL1.out.grows (by repeat' first | exact Grows.refl _ | refine Grows.more ?_ _ | refine Grows.alloc ?_ _)) (hL2.out.grows (by repeat' first | exact Grows.refl _ | refine Grows.more ?_ _ | refine Grows.alloc ?_ _)) HL.out).mono ?_)
      rintro e w3 ⟨rfl, m3, rfl⟩
      go_wp2_with fail
      go_roundg (gk - 1)
      case measure => have := hQ.out; omega
      case rel => exact ⟨c + 1, by have := hQ.out; omega, by go_num, by repeat' first | exact Grows.refl _ | refine Grows.more ?_ _ | refine Grows.alloc ?_ _⟩
    · go_wp2_with fail
      go_ret
      exact ⟨rfl, Grows.of _ _⟩
end Go.Proofs.Ythanghgfakibnaa
