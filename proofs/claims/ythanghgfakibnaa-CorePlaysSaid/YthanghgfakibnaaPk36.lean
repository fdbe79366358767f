/-
  Several texts of the proof: Acts, RegsBey, CoreActs.
-/
import Derived.Test.YthanghgfakibnaaPk11
import Derived.Test.YthanghgfakibnaaPk14
import Derived.Test.YthanghgfakibnaaPk20
import Derived.Test.YthanghgfakibnaaPk34
import Derived.Test.YthanghgfakibnaaPk25
/-
  Chapter 17: texts of registers, and lists of acts, that come in as arguments, opened.
-/
namespace Go.Proofs.Ythanghgfakibnaa
open Go.ChangeShapes Go.WideShapes Go.ChangeAt Go.RowKit Go.Joins

/-- An act in memory. -/
structure ActC where
  kind : Int
  letter : Int
  A : Option Addr
  cap : Nat
  x : Rg
def ActC.cells (s : ActC) : List Value := [.int .u8 s.kind, .int .u8 s.letter, .slice s.A s.x.d.length s.cap, .bool s.x.whole]
structure ActC.ok (w : World) (s : ActC) : Prop where
  kind : 0 ≤ s.kind ∧ s.kind ≤ 255
  letter : 0 ≤ s.letter ∧ s.letter ≤ 255
  came : Came w s.A s.cap s.x.d
set_option maxRecDepth 3000 in
theorem act_cells (L : List ActC) : ∀ (k : Nat) (h : k < L.length), (L.flatMap ActC.cells)[k * 4]? = some (.int .u8 L[k].kind) ∧ (L.flatMap ActC.cells)[k * 4 + 1]? = some (.int .u8 L[k].letter) ∧ (L.flatMap ActC.cells)[k * 4 + 2]? = some (.slice L[k].A L[k].x.d.length L[k].cap) ∧ (L.flatMap ActC.cells)[k * 4 + 3]? = some (.bool L[k].x.whole) := by
  induction L with
  | nil => intro k h; simp at h
  | cons s L ih =>
    intro k h
    match k with
    | 0 => simp [ActC.cells]
    | k + 1 =>
      have := ih k (by simpa using h)
      have e : (k + 1) * 4 = k * 4 + 4 := by omega
      simpa [ActC.cells, e] using this
/-- A list of acts that came in. -/
structure CameActs (w : World) (A : Option Addr) (cap : Nat) (L : List ActC) : Prop where
  rd : Rd w 4 A L.length (L.flatMap ActC.cells)
  len : L.length ≤ 9223372036854775807
  each : ∀ s ∈ L, s.ok w
set_option maxRecDepth 3000 in
/-- The cells of one of them, where they lie. -/
theorem Rd.act {w : World} {A : Option Addr} {L : List ActC} (h : Rd w 4 A L.length (L.flatMap ActC.cells)) (k : Nat) (hk : k < L.length) : ∃ b o, A = some ⟨b, o, none⟩ ∧ b < w.heap.size ∧ w.cell? ⟨b, o + k * 4, none⟩ = some (.int .u8 L[k].kind) ∧ w.cell? ⟨b, o + k * 4 + 1, none⟩ = some (.int .u8 L[k].letter) ∧ w.cell? ⟨b, o + k * 4 + 2, none⟩ = some (.slice L[k].A L[k].x.d.length L[k].cap) ∧ w.cell? ⟨b, o + k * 4 + 3, none⟩ = some (.bool L[k].x.whole) := by
  obtain ⟨b, o, rfl, hb, hc⟩ := h.2 (by omega)
  obtain ⟨h0, h1, h2, h3⟩ := act_cells L k hk
  exact ⟨b, o, rfl, hb, hc _ _ h0, by rw [Nat.add_assoc]; exact hc _ _ h1, by rw [Nat.add_assoc]; exact hc _ _ h2, by rw [Nat.add_assoc]; exact hc _ _ h3⟩
section
variable {H : Type} {enc : TypeId × Value → H} {W : World} {base b0 : Nat} {spare : Nat → Bool} {held : Bool}
set_option maxRecDepth 3000 in
theorem open_reg_cells {m : Nat} {cs : List Value} {y : DataW H × List MemPlace} (h : DataW.trod enc Try.prog W base spare held m 68 cs = some y) :
    ∃ (A : Option Addr) (cap : Nat) (x : Rg), cs = [.slice A x.d.length cap, .bool x.whole] ∧ Came W A cap x.d := by
  obtain ⟨hlen, n, hf⟩ := open_fields Try.underlying68 (by kernel_rfl) (by kernel_rfl) h
  match cs, hlen with
  | [c0, c1], _ =>
    obtain ⟨x0, _, g0, h0⟩ := hf 0 _ rfl
    obtain rfl : c0 = x0 := by simpa using g0
    obtain ⟨x1, _, g1, h1⟩ := hf 1 _ rfl
    obtain rfl : c1 = x1 := by simpa using g1
    obtain ⟨A, cap, l, q0, hl⟩ := open_lines_cell h0
    obtain ⟨b, q1, _⟩ := DataW.trod_bool Try.underlying4 h1
    simp only [List.cons.injEq, and_true] at q1
    exact ⟨A, cap, ⟨l, b⟩, by rw [q0, q1], hl⟩
set_option maxRecDepth 3000 in
theorem open_reg {v : Value} {d : DataW H} {p : List MemPlace} (hv : Value.okWide Try.prog W .any b0 68 v) (h : DataW.Trod enc Try.prog W base spare held 68 v d p) :
    ∃ (A : Option Addr) (cap : Nat) (x : Rg), v = .agg #[.slice A x.d.length cap, .bool x.whole] ∧ Came W A cap x.d := by
  simp only [Value.okWide, Try.underlying68] at hv
  obtain ⟨cs, rfl, hsz, _⟩ := hv
  obtain ⟨fuel, hf⟩ := h
  obtain ⟨A, cap, x, e, hx⟩ := open_reg_cells hf
  refine ⟨A, cap, x, ?_, hx⟩
  have e' : cs.toList = [.slice A x.d.length cap, .bool x.whole] := by simpa [Value.cells] using e
  rw [← Array.toArray_toList (xs := cs), e']
end
end Go.Proofs.Ythanghgfakibnaa

/-
  Chapter 17: the laws' own bounds of acts; registers compared, all of them; new registers of the document's.
-/
namespace Go.Proofs.Ythanghgfakibnaa
open Go.RowKit

set_option maxRecDepth 3000 in
theorem beyond20 (A : Option Addr) (cap : Nat) (d : List (List UInt8)) (w : World) (hA : Rd w 1 A d.length (lv d)) (hd : d.length ≤ 9223372036854775807) (hl : ∀ s ∈ d, s.length ≤ 9223372036854775807) :
    Calls Try.prog 25 #[.slice A d.length cap, .int .i64 20] w fun e w' => e = .returned (.bool (bigL d 20)) ∧ w = w' := beyondLines_any A cap d 20 w hA hd (by omega) hl
set_option maxRecDepth 3000 in
theorem same_lit' {ok ok2 : Nat → Prop} (a : Rg) (A B : Option Addr) (ca cb : Nat) (w : World) (ha : LRd ok w A ca a.d) (hb : LRd ok2 w B cb a.d) (hl : a.d.length ≤ 1000000) : Calls Try.prog 32 #[.agg #[.slice A a.d.length ca, .bool a.whole], .agg #[.slice B a.d.length cb, .bool a.whole]] w fun e w1 => e = .returned (.bool true) ∧ Grows w w1 := by
  have := sameReg_any A B ca cb a a w ha hb hl hl
  rwa [rsame_self] at this
/-- Are acts more than is looked at? -/
def bigA (L : List ActC) (m : Nat) : Bool := decide (m < L.length) || L.any fun s => bigL s.x.d 20
set_option maxRecDepth 3000 in
theorem bigA_no {L : List ActC} {m : Nat} (h : bigA L m = false) : L.length ≤ m ∧ ∀ s ∈ L, s.x.d.length ≤ 20 ∧ ∀ t ∈ s.x.d, t.length ≤ 300 := by
  unfold bigA at h
  simp only [Bool.or_eq_false_iff, decide_eq_false_iff_not, List.any_eq_false] at h
  exact ⟨by omega, fun s hs => bigL_no (by have := h.2 s hs; simpa using this)⟩
set_option maxRecDepth 20000 in
set_option maxHeartbeats 2000000 in
/-- All registers of both have the same. -/
theorem sameRegs_any {ok ok' : Nat → Prop} (p r g : Nat) (S : RS) (w : World) (h : Regs ok w p r S) (k : RefIs ok' w g S) :
    Calls Try.prog 64 #[.pointer (some ⟨p, 0, none⟩), .pointer (some ⟨g, 0, none⟩)] w fun e w' => e = .returned (.bool true) ∧ Grows w w' := by
  have H := Lib.hid h
  have K := Lib.hid k
  clear h k
  go_enter Try.func64, Try.ntmps64
  go_wp2_with fail
  go_loopg [5] 256 (fun q i wr => ∃ c : Nat, q + c = 256 ∧ i = .int .i64 c ∧ Grows w wr)
  case atStart => exact ⟨0, rfl, rfl, Grows.refl _⟩
  case round =>
    obtain ⟨c, hq, rfl, m0, rfl⟩ := hrel
    have hQ := Lib.hid hq
    have hc9 : c ≤ 256 := by omega
    clear hq
    by_cases h1 : c < 256
    · have c1 : (c : Int) < 256 := by omega
      have hw : IntKind.u8.wrap (c : Int) = c := u8_wrap (by omega) (by omega)
      have hl : (rget S c).1.d.length ≤ 1000000 := by
        unfold rget
        cases hs : S (lowL c) with
        | none => simp [rg0]
        | some x => have := (rcheck_fits (H.out.good _ _ hs)).1; simp; omega
      have HL := Lib.hid hl
      clear hl
      go_wp2_with fail
      (with_reducible refine (get_any p r S c _ (H.out.grows (by repeat' first | exact Grows.refl _ | refine Grows.more ?_ _ | refine Grows.alloc ?_ _))).mono ?_)
      rintro e w1 ⟨A1, c1, rfl, hL1, m1, rfl⟩
      have hL1 := Lib.hid hL1
      go_wp2_with fail
      (with_reducible refine (refGet_any g S c h1 _ (K.out.grows (by repeat' first | exact Grows.refl _ | refine Grows.more ?_ _ | refine Grows.alloc ?_ _))).mono ?_)
      rintro e w2 ⟨A2, c2, rfl, hL2, m2, rfl⟩
      have hL2 := Lib.hid hL2
      generalize rget S c = x at *
      obtain ⟨x, e9⟩ := x
      go_wp2_with fail
      (with_reducible refine (same_lit' x A1 A2 _ _ _ (hL1.out.grows (by repeat' first | exact Grows.refl _ | refine Grows.more ?_ _ | refine Grows.alloc ?_ _)) (hL2.out.grows (by repeat' first | exact Grows.refl _ | refine Grows.more ?_ _ | refine Grows.alloc ?_ _)) HL.out).mono ?_)
      rintro e w3 ⟨rfl, m3, rfl⟩
      go_wp2_with fail
      go_roundg (gk - 1)
      case measure => have := hQ.out; omega
      case rel => exact ⟨c + 1, by have := hQ.out; omega, by go_num, by repeat' first | exact Grows.refl _ | refine Grows.more ?_ _ | refine Grows.alloc ?_ _⟩
    · go_wp2_with fail
      go_ret
      exact ⟨rfl, Grows.of _ _⟩
end Go.Proofs.Ythanghgfakibnaa

/-
  Chapter 19: acts, and splices, that come in as arguments, opened; how many are looked at.
-/
namespace Go.Proofs.Ythanghgfakibnaa
open Go.ChangeShapes Go.WideShapes Go.ChangeAt Go.RowKit Go.Joins

/-- An act in memory. -/
structure AcC where
  kind : Int
  at_ : Int
  del : Int
  A : Option Addr
  cap : Nat
  ins : List (List UInt8)
  line : Int
  letter : Int
  text : List UInt8
def AcC.cells (s : AcC) : List Value := [.int .u8 s.kind, .int .i64 s.at_, .int .i64 s.del, .slice s.A s.ins.length s.cap, .int .i64 s.line, .int .u8 s.letter, .string (tx s.text)]
structure AcC.ok (w : World) (s : AcC) : Prop where
  kind : 0 ≤ s.kind ∧ s.kind ≤ 255
  at_ : I64 s.at_
  del : I64 s.del
  came : Came w s.A s.cap s.ins
  line : I64 s.line
  letter : 0 ≤ s.letter ∧ s.letter ≤ 255
  text : s.text.length ≤ 9223372036854775807
set_option maxRecDepth 3000 in
theorem AcC.ok.grows {w w' : World} {s : AcC} (h : s.ok w) (hg : Grows w w') : s.ok w' := ⟨h.kind, h.at_, h.del, h.came.grows hg, h.line, h.letter, h.text⟩
set_option maxRecDepth 3000 in
theorem ac_cells (L : List AcC) : ∀ (k : Nat) (h : k < L.length) (j : Nat), j < 7 → (L.flatMap AcC.cells)[k * 7 + j]? = (L[k].cells)[j]? := by
  induction L with
  | nil => intro k h; simp at h
  | cons s L ih =>
    intro k h j hj
    match k with
    | 0 =>
      rw [List.flatMap_cons, Nat.zero_mul, Nat.zero_add, List.getElem?_append_left (by simpa [AcC.cells] using hj)]
      rfl
    | k + 1 =>
      have := ih k (by simpa using h) j hj
      rw [List.flatMap_cons, List.getElem?_append_right (by simp [AcC.cells]; omega)]
      have e : (k + 1) * 7 + j - s.cells.length = k * 7 + j := by simp [AcC.cells]; omega
      rw [e]
      simpa using this
/-- A list of acts. -/
structure AcsIn (w : World) (A : Option Addr) (L : List AcC) : Prop where
  rd : Rd w 7 A L.length (L.flatMap AcC.cells)
  len : L.length ≤ 9223372036854775807
  each : ∀ s ∈ L, s.ok w
set_option maxRecDepth 3000 in
theorem AcsIn.grows {w w' : World} {A : Option Addr} {L : List AcC} (h : AcsIn w A L) (hg : Grows w w') : AcsIn w' A L := ⟨h.rd.grows hg, h.len, fun s hs => (h.each s hs).grows hg⟩
set_option maxRecDepth 3000 in
theorem Rd.ac {w : World} {A : Option Addr} {L : List AcC} (h : Rd w 7 A L.length (L.flatMap AcC.cells)) (k : Nat) (hk : k < L.length) : ∃ b o, A = some ⟨b, o, none⟩ ∧ b < w.heap.size ∧ w.cell? ⟨b, o + k * 7, none⟩ = some (.int .u8 L[k].kind) ∧ w.cell? ⟨b, o + k * 7 + 1, none⟩ = some (.int .i64 L[k].at_) ∧ w.cell? ⟨b, o + k * 7 + 2, none⟩ = some (.int .i64 L[k].del) ∧
    w.cell? ⟨b, o + k * 7 + 3, none⟩ = some (.slice L[k].A L[k].ins.length L[k].cap) ∧ w.cell? ⟨b, o + k * 7 + 4, none⟩ = some (.int .i64 L[k].line) ∧ w.cell? ⟨b, o + k * 7 + 5, none⟩ = some (.int .u8 L[k].letter) ∧ w.cell? ⟨b, o + k * 7 + 6, none⟩ = some (.string (tx L[k].text)) := by
  obtain ⟨b, o, rfl, hb, hc⟩ := h.2 (by omega)
  have hs := ac_cells L k hk
  exact ⟨b, o, rfl, hb, hc _ _ (hs 0 (by omega)), by rw [Nat.add_assoc]; exact hc _ _ (hs 1 (by omega)), by rw [Nat.add_assoc]; exact hc _ _ (hs 2 (by omega)), by rw [Nat.add_assoc]; exact hc _ _ (hs 3 (by omega)), by rw [Nat.add_assoc]; exact hc _ _ (hs 4 (by omega)), by rw [Nat.add_assoc]; exact hc _ _ (hs 5 (by omega)), by rw [Nat.add_assoc]; exact hc _ _ (hs 6 (by omega))⟩
/-- Is an act more than is looked at? -/
def bigAc (s : AcC) : Bool := bigL s.ins 20 || decide (300 < s.text.length)
def bigAcs (L : List AcC) (m : Nat) : Bool := decide (m < L.length) || L.any bigAc
set_option maxRecDepth 3000 in
theorem bigAcs_no {L : List AcC} {m : Nat} (h : bigAcs L m = false) : L.length ≤ m ∧ ∀ s ∈ L, s.ins.length ≤ 20 ∧ (∀ t ∈ s.ins, t.length ≤ 300) ∧ s.text.length ≤ 300 := by
  unfold bigAcs at h
  simp only [Bool.or_eq_false_iff, decide_eq_false_iff_not, List.any_eq_false] at h
  refine ⟨by omega, fun s hs => ?_⟩
  have h2 := h.2 s hs
  simp only [bigAc, Bool.or_eq_true, decide_eq_true_eq, not_or] at h2
  have h3 := bigL_no (d := s.ins) (m := 20) (by simpa using h2.1)
  exact ⟨h3.1, h3.2, by omega⟩
set_option maxRecDepth 3000 in
set_option maxHeartbeats 2000000 in
theorem beyondAc (A : Option Addr) (cap : Nat) (L : List AcC) (m : Nat) (m' : Int) (hm' : m' = m) (w : World) (h : AcsIn w A L) (hm : m ≤ 1000000) :
    Calls Try.prog 7 #[.slice A L.length cap, .int .i64 m'] w fun e w' => e = .returned (.bool (bigAcs L m)) ∧ w = w' := by
  subst hm'
  have hL := Lib.hid h.each
  have hA := h.rd
  have hd := h.len
  clear h
  by_cases h1 : m < L.length
  · have hV : Hid (bigAcs L m = true) := Lib.hid (by simp [bigAcs, h1])
    have h1' : (m : Int) < (L.length : Int) := by omega
    go_enter Try.func7, Try.ntmps7
    go_wp2_with fail
    go_ret
    exact ⟨by rw [hV.out]; rfl, rfl⟩
  · have h1' : ¬ (m : Int) < (L.length : Int) := by omega
    have hdm : L.length ≤ m := by omega
    have H1 := Lib.hid h1
    clear h1
    go_enter Try.func7, Try.ntmps7
    go_wp2_with fail
    go_loopg [5] L.length (fun q i wr => ∃ k : Nat, q + k = L.length ∧ i = .int .i64 k ∧ wr = w ∧ (L.take k).any bigAc = false)
    case atStart => exact ⟨0, by omega, rfl, rfl, rfl⟩
    case round =>
      obtain ⟨k, hq, rfl, rfl, hall⟩ := hrel
      have HQ := Lib.hid hq
      have HA := Lib.hid hall
      have hkl : k ≤ L.length := by omega
      clear hq hall
      by_cases h2 : k < L.length
      · obtain ⟨b, o, rfl, hb, e0, e1, e2, e3, e4, e5, e6⟩ := hA.ac k h2
        have hc := Lib.hid (hL.out _ (List.getElem_mem h2)).came
        have hx := (hL.out _ (List.getElem_mem h2)).text
        have k0 : (0 : Int) ≤ (k : Int) := by omega
        have k1 : (k : Int) < (L.length : Int) := by omega
        have hsz : (tx L[k].text).size = L[k].text.length := tx_size _
        cases h3 : bigL L[k].ins 20 with
        | true =>
          have hV : Hid (bigAcs L m = true) := Lib.hid (by
            unfold bigAcs
            rw [Bool.or_eq_true, List.any_eq_true]
            exact .inr ⟨_, List.getElem_mem h2, by simp [bigAc, h3]⟩)
          have H3 := Lib.hid h3
          clear h3
          go_wp2_with fail
          (with_reducible refine (beyond20 L[k].A L[k].cap L[k].ins _ hc.out.rd hc.out.len hc.out.each).mono ?_)
          rw [H3.out]
          rintro e w1 ⟨rfl, rfl⟩
          go_wp2_with fail
          go_ret
          exact ⟨by rw [hV.out]; rfl, rfl⟩
        | false =>
          have H3 := Lib.hid h3
          by_cases h4 : 300 < L[k].text.length
          · have hV : Hid (bigAcs L m = true) := Lib.hid (by
              unfold bigAcs
              rw [Bool.or_eq_true, List.any_eq_true]
              exact .inr ⟨_, List.getElem_mem h2, by simp [bigAc, h4]⟩)
            have h4' : (300 : Int) < (L[k].text.length : Int) := by omega
            clear h3
            go_wp2_with fail
            (with_reducible refine (beyond20 L[k].A L[k].cap L[k].ins _ hc.out.rd hc.out.len hc.out.each).mono ?_)
            rw [H3.out]
            rintro e w1 ⟨rfl, rfl⟩
            go_wp2_with fail
            go_ret
            exact ⟨by rw [hV.out]; rfl, rfl⟩
          · have HT : Hid ((L.take (k + 1)).any bigAc = false) := Lib.hid (by
              rw [List.take_add_one, List.getElem?_eq_getElem h2, List.any_append, HA.out]
              simp [bigAc, h3, h4])
            have h4' : ¬ (300 : Int) < (L[k].text.length : Int) := by omega
            clear h3
            go_wp2_with fail
            (with_reducible refine (beyond20 L[k].A L[k].cap L[k].ins _ hc.out.rd hc.out.len hc.out.each).mono ?_)
            rw [H3.out]
            rintro e w1 ⟨rfl, rfl⟩
            go_wp2_with fail
            go_roundg (gk - 1)
            case measure => have := HQ.out; omega
            case rel => exact ⟨k + 1, by have := HQ.out; omega, by go_num, rfl, HT.out⟩
      · have hV : Hid (bigAcs L m = false) := Lib.hid (by
          have := HA.out
          rw [List.take_of_length_le (by omega)] at this
          unfold bigAcs
          rw [this, decide_eq_false H1.out]
          rfl)
        go_wp2_with fail
        go_ret
        exact ⟨by rw [hV.out]; rfl, rfl⟩
section
variable {H : Type} {enc : TypeId × Value → H} {W : World} {base b0 : Nat} {spare : Nat → Bool} {held : Bool}
set_option maxRecDepth 3000 in
theorem open_spx {m : Nat} {cs : List Value} {y : DataW H × List MemPlace} (h : DataW.trod enc Try.prog W base spare held m 24 cs = some y) :
    ∃ (a d : Int) (A : Option Addr) (cap : Nat) (l : List (List UInt8)), cs = [.int .i64 a, .int .i64 d, .slice A l.length cap] ∧ I64 a ∧ I64 d ∧ Came W A cap l := by
  obtain ⟨hlen, n, hf⟩ := open_fields Try.underlying24 (by kernel_rfl) (by kernel_rfl) h
  match cs, hlen with
  | [c0, c1, c2], _ =>
    obtain ⟨x0, _, g0, h0⟩ := hf 0 _ rfl
    obtain rfl : c0 = x0 := by simpa using g0
    obtain ⟨x1, _, g1, h1⟩ := hf 1 _ rfl
    obtain rfl : c1 = x1 := by simpa using g1
    obtain ⟨x2, _, g2, h2⟩ := hf 2 _ rfl
    obtain rfl : c2 = x2 := by simpa using g2
    obtain ⟨a, q0, _, wa⟩ := DataW.trod_int Try.underlying3 h0
    obtain ⟨d, q1, _, wd⟩ := DataW.trod_int Try.underlying3 h1
    obtain ⟨A, cap, l, q2, hl⟩ := open_lines_cell h2
    have q0' : c0 = .int .i64 a := by simpa using q0
    have q1' : c1 = .int .i64 d := by simpa using q1
    exact ⟨a, d, A, cap, l, by rw [q0', q1', q2], i64_wf wa, i64_wf wd, hl⟩
set_option maxRecDepth 3000 in
theorem open_ac {m : Nat} {cs : List Value} {y : DataW H × List MemPlace} (h : DataW.trod enc Try.prog W base spare held m 26 cs = some y) : ∃ s : AcC, cs = s.cells ∧ s.ok W := by
  obtain ⟨xs, n, _, _, hlen, hxl, hf⟩ := DataW.trod_struct Try.underlying26 h
  rw [show Try.prog.cellsOf 26 = 7 by kernel_rfl] at hlen
  have hx : ∀ i, i < 5 → ∃ y, xs[i]? = some y := fun i hi => ⟨_, List.getElem?_eq_getElem (by rw [hxl]; exact hi)⟩
  obtain ⟨y0, e0⟩ := hx 0 (by omega)
  obtain ⟨y1, e1⟩ := hx 1 (by omega)
  obtain ⟨y2, e2⟩ := hx 2 (by omega)
  obtain ⟨y3, e3⟩ := hx 3 (by omega)
  obtain ⟨y4, e4⟩ := hx 4 (by omega)
  match cs, hlen with
  | [c0, c1, c2, c3, c4, c5, c6], _ =>
    have h0 : DataW.trod enc Try.prog W base spare held n 5 (([c0, c1, c2, c3, c4, c5, c6].drop 0).take (Try.prog.cellsOf 5)) = xs[0]? := hf 0 _ rfl
    have h1 : DataW.trod enc Try.prog W base spare held n 24 (([c0, c1, c2, c3, c4, c5, c6].drop 1).take (Try.prog.cellsOf 24)) = xs[1]? := hf 1 _ rfl
    have h2 : DataW.trod enc Try.prog W base spare held n 3 (([c0, c1, c2, c3, c4, c5, c6].drop 4).take (Try.prog.cellsOf 3)) = xs[2]? := hf 2 _ rfl
    have h3 : DataW.trod enc Try.prog W base spare held n 5 (([c0, c1, c2, c3, c4, c5, c6].drop 5).take (Try.prog.cellsOf 5)) = xs[3]? := hf 3 _ rfl
    have h4 : DataW.trod enc Try.prog W base spare held n 9 (([c0, c1, c2, c3, c4, c5, c6].drop 6).take (Try.prog.cellsOf 9)) = xs[4]? := hf 4 _ rfl
    rw [show Try.prog.cellsOf 5 = 1 by kernel_rfl, e0] at h0
    rw [show Try.prog.cellsOf 24 = 3 by kernel_rfl, e1] at h1
    rw [show Try.prog.cellsOf 3 = 1 by kernel_rfl, e2] at h2
    rw [show Try.prog.cellsOf 5 = 1 by kernel_rfl, e3] at h3
    rw [show Try.prog.cellsOf 9 = 1 by kernel_rfl, e4] at h4
    obtain ⟨a, q0, _, wa⟩ := DataW.trod_int Try.underlying5 h0
    obtain ⟨p, d, A, cap, l, q1, wp, wd, hl⟩ := open_spx h1
    obtain ⟨t, q2, _, wt⟩ := DataW.trod_int Try.underlying3 h2
    obtain ⟨b, q3, _, wb⟩ := DataW.trod_int Try.underlying5 h3
    obtain ⟨s, q4, _, ws⟩ := DataW.trod_string Try.underlying9 h4
    have q0' : c0 = .int .u8 a := by simpa using q0
    have q1' : c1 = .int .i64 p ∧ c2 = .int .i64 d ∧ c3 = .slice A l.length cap := by simpa using q1
    have q2' : c4 = .int .i64 t := by simpa using q2
    have q3' : c5 = .int .u8 b := by simpa using q3
    have q4' : c6 = .string s := by simpa using q4
    obtain ⟨q11, q12, q13⟩ := q1'
    unfold maxLen at ws
    exact ⟨⟨a, p, d, A, cap, l, t, b, s.data.toList⟩, by rw [q0', q11, q12, q13, q2', q3', q4']; simp only [AcC.cells, tx_of], u8_wf wa, wp, wd, hl, i64_wf wt, u8_wf wb, by show s.data.toList.length ≤ _; rw [Array.length_toList]; exact ws⟩
set_option maxRecDepth 3000 in
/-- A list of acts. -/
theorem open_acs {v : Value} {d : DataW H} {p : List MemPlace} (hv : Value.okWide Try.prog W .any b0 28 v) (h : DataW.Trod enc Try.prog W base spare held 28 v d p) :
    ∃ (A : Option Addr) (L : List AcC) (cap : Nat), v = .slice A L.length cap ∧ AcsIn W A L := by
  obtain ⟨a, len, cap, rfl⟩ := okWide_slice Try.underlying28 hv
  obtain ⟨fuel, hf⟩ := h
  obtain ⟨A, n, cap, css, hcs, h1, h2, h3, h4, h5⟩ := open_rows Try.underlying28 (show Try.prog.cellsOf 26 = 7 by kernel_rfl) (by omega) hf
  have key : ∀ css : List (List Value), (∀ c ∈ css, c.length = 7 ∧ ∃ m y, DataW.trod enc Try.prog W base spare held m 26 c = some y) →
      ∃ L : List AcC, L.length = css.length ∧ css.flatten = L.flatMap AcC.cells ∧ ∀ s ∈ L, s.ok W := by
    intro css
    induction css with
    | nil => intro _; exact ⟨[], rfl, rfl, by simp⟩
    | cons c css ih =>
      intro hc
      obtain ⟨L, e1, e2, e3⟩ := ih (fun x hx => hc x (by simp [hx]))
      obtain ⟨_, m, y, hy⟩ := hc c (by simp)
      obtain ⟨s, rfl, hs⟩ := open_ac hy
      refine ⟨s :: L, by simp [e1], by simp [e2], fun x hx => ?_⟩
      rcases List.mem_cons.1 hx with rfl | hx
      · exact hs
      · exact e3 x hx
  obtain ⟨L, e1, e2, e3⟩ := key css h4
  have hn : n = L.length := by omega
  subst hn
  simp [Value.cells] at hcs
  obtain ⟨rfl, rfl, rfl⟩ := hcs
  unfold maxLen at h2
  exact ⟨a, L, cap, rfl, by rw [← e2]; exact h5, by omega, e3⟩
set_option maxRecDepth 3000 in
/-- An act alone. -/
theorem open_act1 {v : Value} {d : DataW H} {p : List MemPlace} (hv : Value.okWide Try.prog W .any b0 26 v) (h : DataW.Trod enc Try.prog W base spare held 26 v d p) : ∃ s : AcC, v = .agg s.cells.toArray ∧ s.ok W := by
  simp only [Value.okWide, Try.underlying26] at hv
  obtain ⟨cs, rfl, hsz, _⟩ := hv
  obtain ⟨fuel, hf⟩ := h
  obtain ⟨s, e, hs⟩ := open_ac hf
  refine ⟨s, ?_, hs⟩
  have e' : cs.toList = s.cells := by simpa [Value.cells] using e
  rw [← e', Array.toArray_toList]
end
end Go.Proofs.Ythanghgfakibnaa
