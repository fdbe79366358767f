/-
  Core: a buffer, with what its memory is made of out of sight: for the laws.
-/
import Derived.Test.YthanghgfakibnaaPk34
namespace Go.Proofs.Ythanghgfakibnaa
open Go.RowKit

/-- A buffer whose own blocks (K) are younger than W, that leans on none of X. -/
structure Co (W : World) (X K : Nat → Prop) (g : Nat) (c : CoV) (w : World) : Prop where
  at_ : ∃ ok tv rv uv wv hv dv r r2 D, CoreM kI 0 ok K w g c tv rv uv wv hv dv r r2 D ∧ ∀ b, X b → ¬ ok b
  grown : Grows W w
  low : ∀ b, K b → W.heap.size ≤ b
  out : ∀ b, X b → ¬ K b ∧ b < w.heap.size
/-- What a step may turn. -/
structure Step (K K' : Nat → Prop) (w w' : World) : Prop where
  chg : Chg K w w'
  new : ∀ b, K' b → K b ∨ w.heap.size ≤ b
section
variable {W w w' w2 : World} {X K K' K2 : Nat → Prop} {g : Nat} {c c' : CoV}
set_option maxRecDepth 3000 in
theorem Co.good (h : Co W X K g c w) : c.good := by
  obtain ⟨ok, tv, rv, uv, wv, hv, dv, r, r2, D, hM, -⟩ := h.at_
  exact hM.good
set_option maxRecDepth 3000 in
theorem Co.lt (h : Co W X K g c w) (b : Nat) (hb : K b) : b < w.heap.size := by
  obtain ⟨ok, tv, rv, uv, wv, hv, dv, r, r2, D, hM, -⟩ := h.at_
  exact hM.lt hb
set_option maxRecDepth 3000 in
theorem Step.of_grows (hg : Grows w w') : Step K K w w' := ⟨Chg.of_grows hg, fun _ h => .inl h⟩
set_option maxRecDepth 3000 in
theorem Step.refl : Step K K w w := Step.of_grows (Grows.refl w)
set_option maxRecDepth 3000 in
theorem Step.trans (h : Step K K' w w') (k : Step K' K2 w' w2) (hs : w.heap.size ≤ w'.heap.size) : Step K K2 w w2 := by
  refine ⟨h.chg.late k.chg fun x hx hk => ?_, fun b hb => ?_⟩
  · rcases h.new x hk with h1 | h1
    · exact h1
    · omega
  · rcases k.new b hb with h1 | h1
    · exact h.new b h1
    · exact .inr (by omega)
set_option maxRecDepth 3000 in
/-- Lines that lie outside a buffer's own blocks stay. -/
theorem LRd.step {A : Option Addr} {cap : Nat} {d : List (List UInt8)} (h : LRd (fun b => ¬ K b) w A cap d) (hs : Step K K' w w') : LRd (fun b => ¬ K' b) w' A cap d :=
  (h.mono (ok' := fun b => ¬ K b ∧ ¬ K' b) (fun b hb hk => ⟨hk, fun e => by rcases hs.new b e with h1 | h1; exact hk h1; omega⟩)).chg hs.chg (fun _ _ e => e.1) |>.mono (fun _ _ e => e.2)
set_option maxRecDepth 3000 in
theorem Co.grows (h : Co W X K g c w) (hg : Grows w w') : Co W X K g c w' := by
  obtain ⟨ok, tv, rv, uv, wv, hv, dv, r, r2, D, hM, hX⟩ := h.at_
  exact ⟨⟨ok, tv, rv, uv, wv, hv, dv, r, r2, D, hM.grows hg, hX⟩, h.grown.trans hg, h.low, fun b hb => ⟨(h.out b hb).1, Nat.lt_of_lt_of_le (h.out b hb).2 hg.below.size⟩⟩
set_option maxRecDepth 3000 in
theorem Co.moved (h : Co W X K g c w) {ok : Nat → Prop} (hX : ∀ b, X b → ¬ ok b) (hm : Moved kI 0 ok K g w c' w') : ∃ K', Co W X K' g c' w' ∧ Step K K' w w' := by
  obtain ⟨ok', K', ⟨tv, rv, uv, wv, hv, dv, r, r2, D, hM⟩, hc, -, ho, hK⟩ := hm
  refine ⟨K', ⟨⟨ok', tv, rv, uv, wv, hv, dv, r, r2, D, hM, fun b hb e => hX b hb (ho b e)⟩, Chg.grows (n := 0) h.grown hc h.low, fun b hb => ?_, fun b hb => ⟨fun e => ?_, Nat.lt_of_lt_of_le (h.out b hb).2 hc.size⟩⟩, hc, hK⟩
  · rcases hK b hb with h1 | h1
    · exact h.low b h1
    · exact Nat.le_trans h.grown.below.size h1
  · rcases hK b e with h1 | h1
    · exact (h.out b hb).1 h1
    · have := (h.out b hb).2; omega
set_option maxRecDepth 3000 in
theorem Co.same (h : Co W X K g c w) {ok : Nat → Prop} (hX : ∀ b, X b → ¬ ok b) (hm : CoreAt kI 0 ok K w' g c') (hc : Chg K w w') : Co W X K g c' w' ∧ Step K K w w' := by
  obtain ⟨tv, rv, uv, wv, hv, dv, r, r2, D, hM⟩ := hm
  exact ⟨⟨⟨ok, tv, rv, uv, wv, hv, dv, r, r2, D, hM, hX⟩, Chg.grows (n := 0) h.grown hc h.low, h.low, fun b hb => ⟨(h.out b hb).1, Nat.lt_of_lt_of_le (h.out b hb).2 hc.size⟩⟩, hc, fun _ h => .inl h⟩
/-! ### what is called -/
set_option maxRecDepth 3000 in
theorem co_cur (h : Co W X K g c w) (n : Int) (hn : c.s.cur = n) : Calls Try.prog 17 #[.pointer (some ⟨g, 0, none⟩)] w fun e w' => e = .returned (.int .i64 n) ∧ w = w' := by
  obtain ⟨ok, tv, rv, uv, wv, hv, dv, r, r2, D, hM, hX⟩ := h.at_
  exact m_cur hM n hn
set_option maxRecDepth 3000 in
theorem co_n (h : Co W X K g c w) (n : Int) (hn : (c.s.L.length : Int) = n) : Calls Try.prog 14 #[.pointer (some ⟨g, 0, none⟩)] w fun e w' => e = .returned (.int .i64 n) ∧ w = w' := by
  obtain ⟨ok, tv, rv, uv, wv, hv, dv, r, r2, D, hM, hX⟩ := h.at_
  exact m_n hM n hn
set_option maxRecDepth 3000 in
theorem co_dirty (h : Co W X K g c w) (b : Bool) (hb : c.dirty = b) : Calls Try.prog 21 #[.pointer (some ⟨g, 0, none⟩)] w fun e w' => e = .returned (.bool b) ∧ w = w' := by
  obtain ⟨ok, tv, rv, uv, wv, hv, dv, r, r2, D, hM, hX⟩ := h.at_
  exact m_dirty hM b hb
set_option maxRecDepth 3000 in
theorem NewL2.keep {w : World} (h : Co W X K g c w) {d : List (List UInt8)} {A : Option Addr} {cap : Nat} (hl : LRd (fun b => w.heap.size ≤ b) w' A cap d) : LRd (fun b => ¬ K b) w' A cap d :=
  hl.mono fun b _ hb e => by have := h.lt b e; omega
set_option maxRecDepth 3000 in
theorem co_lines (h : Co W X K g c w) (L : List (List UInt8)) (hL : c.s.L = L) (n : Int) (hn : n = L.length) (m : Nat) (hm : m = L.length) : Calls Try.prog 16 #[.pointer (some ⟨g, 0, none⟩), .int .i64 1, .int .i64 n] w fun e w' => ∃ A cap, e = .returned (.slice A m cap) ∧ LRd (fun b => ¬ K b) w' A cap L ∧ Grows w w' := by
  subst hL hm
  obtain ⟨ok, tv, rv, uv, wv, hv, dv, r, r2, D, hM, hX⟩ := h.at_
  refine (m_lines hM n hn).mono ?_
  rintro e w' ⟨A, cap, rfl, hl, hg⟩
  exact ⟨A, cap, rfl, NewL2.keep h hl, hg⟩
set_option maxRecDepth 3000 in
theorem co_view (h : Co W X K g c w) : Calls Try.prog 10 #[.pointer (some ⟨g, 0, none⟩)] w fun e w' => ∃ A cap, e = .returned (.agg (viC (.slice A c.s.L.length cap) c.s.cur c.s.ms (.string (tx c.last)))) ∧ LRd (fun b => ¬ K b) w' A cap c.s.L ∧ Grows w w' := by
  obtain ⟨ok, tv, rv, uv, wv, hv, dv, r, r2, D, hM, hX⟩ := h.at_
  obtain ⟨T, rfl, hT, hL, -⟩ := hM.lines
  refine (hL ▸ coView g T _ _ _ _ _ _ _ _ _ w hM.good.s.many hM.cells hT).mono ?_
  rintro e w' ⟨A, cap, rfl, hl, hg⟩
  exact ⟨A, cap, rfl, NewL2.keep h hl, hg⟩
set_option maxRecDepth 3000 in
theorem co_begin (h : Co W X K g c w) (c' : CoV) (n : Int) (hn : coBegin c = (c', n)) : Calls Try.prog 22 #[.pointer (some ⟨g, 0, none⟩)] w fun e w' => e = .returned (.int .i64 n) ∧ ∃ K', Co W X K' g c' w' ∧ Step K K' w w' := by
  obtain ⟨ok, tv, rv, uv, wv, hv, dv, r, r2, D, hM, hX⟩ := h.at_
  have := begin_any hM
  rw [hn] at this
  exact this.mono fun e w' ⟨h1, h2⟩ => ⟨h1, h.moved hX h2⟩
set_option maxRecDepth 3000 in
theorem co_splice {okI : Nat → Prop} (h : Co W X K g c w) (at_ del : Int) (I : Option Addr) (m ci : Nat) (ins : List (List UInt8)) (hm : m = ins.length) (ha : I64 at_) (hd : I64 del) (hI : LRd okI w I ci ins) (hl : ∀ s ∈ ins, s.length ≤ 9223372036854775807) (hi : ins.length ≤ 1000000) (hdn : c.did.length ≤ 1000000) (c' : CoV) (n : Int) (hn : coSplice c ⟨at_, del, ins⟩ = (c', n)) :
    Calls Try.prog 23 #[.pointer (some ⟨g, 0, none⟩), .agg #[.int .i64 at_, .int .i64 del, .slice I m ci]] w fun e w' => e = .returned (.int .i64 n) ∧ ∃ K', Co W X K' g c' w' ∧ Step K K' w w' := by
  subst hm
  obtain ⟨ok, tv, rv, uv, wv, hv, dv, r, r2, D, hM, hX⟩ := h.at_
  have := coSplice_any hM at_ del I ci ins ha hd hI hl hi hdn
  rw [hn] at this
  exact this.mono fun e w' ⟨h1, h2⟩ => ⟨h1, h.moved hX h2⟩
set_option maxRecDepth 3000 in
theorem co_go (h : Co W X K g c w) (line : Int) (hl : I64 line) (c' : CoV) (n : Int) (hn : coGo c line = (c', n)) : Calls Try.prog 18 #[.pointer (some ⟨g, 0, none⟩), .int .i64 line] w fun e w' => e = .returned (.int .i64 n) ∧ ∃ K', Co W X K' g c' w' ∧ Step K K' w w' := by
  obtain ⟨ok, tv, rv, uv, wv, hv, dv, r, r2, D, hM, hX⟩ := h.at_
  have := go_any hM line hl
  rw [hn] at this
  exact this.mono fun e w' ⟨h1, h2⟩ => ⟨h1, h.moved hX h2⟩
set_option maxRecDepth 3000 in
theorem co_mark (h : Co W X K g c w) (letter line : Int) (h0 : 0 ≤ letter) (h1 : letter ≤ 255) (c' : CoV) (n : Int) (hn : coMark c letter line = (c', n)) : Calls Try.prog 19 #[.pointer (some ⟨g, 0, none⟩), .int .u8 letter, .int .i64 line] w fun e w' => e = .returned (.int .i64 n) ∧ ∃ K', Co W X K' g c' w' ∧ Step K K' w w' := by
  obtain ⟨ok, tv, rv, uv, wv, hv, dv, r, r2, D, hM, hX⟩ := h.at_
  have := mark_any hM letter line h0 h1
  rw [hn] at this
  exact this.mono fun e w' ⟨h1, h2⟩ => ⟨h1, h.moved hX h2⟩
set_option maxRecDepth 3000 in
theorem co_last (h : Co W X K g c w) (re : List UInt8) : Calls Try.prog 11 #[.pointer (some ⟨g, 0, none⟩), .string (tx re)] w fun e w' => e = .returned (.tuple #[]) ∧ ∃ K', Co W X K' g { c with last := re } w' ∧ Step K K' w w' := by
  obtain ⟨ok, tv, rv, uv, wv, hv, dv, r, r2, D, hM, hX⟩ := h.at_
  exact (last_any hM re).mono fun e w' ⟨h1, h2⟩ => ⟨h1, h.moved hX h2⟩
set_option maxRecDepth 3000 in
theorem co_clean (h : Co W X K g c w) : Calls Try.prog 12 #[.pointer (some ⟨g, 0, none⟩)] w fun e w' => e = .returned (.tuple #[]) ∧ ∃ K', Co W X K' g { c with dirty := false } w' ∧ Step K K' w w' := by
  obtain ⟨ok, tv, rv, uv, wv, hv, dv, r, r2, D, hM, hX⟩ := h.at_
  exact (clean_any hM).mono fun e w' ⟨h1, h2⟩ => ⟨h1, h.moved hX h2⟩
set_option maxRecDepth 3000 in
theorem rd_own3 {w : World} {base cap : Nat} {t : TypeId} {A : Option Addr} {D : List Spx} (h : w.ownsRow base t 3 (.slice A D.length cap) D.length (D.flatMap Spx.cells)) : Rd w 3 A D.length (D.flatMap Spx.cells) := by
  refine ⟨h.1, fun hn => ?_⟩
  rcases h.2 with ⟨_, h0⟩ | ⟨g, cp, cur, e, hb, hh, _⟩
  · omega
  · injection e with e1 e2 e3
    subst e1
    refine ⟨g, 0, rfl, (Array.getElem?_eq_some_iff.1 hh).1, fun j u hu => ?_⟩
    have hj := (List.getElem?_eq_some_iff.1 hu).1
    rw [h.1] at hj
    rw [Nat.zero_add, h.cellAt j hj]
    exact hu
/-- Splices in memory, that can be read. -/
structure SpsAt (ok : Nat → Prop) (w : World) (A : Option Addr) (D : List Spx) : Prop where
  rd : Rd w 3 A D.length (D.flatMap Spx.cells)
  out : 0 < D.length → ∀ a, A = some a → ok a.block
  each : ∀ s ∈ D, LRd ok w s.A s.cap s.ins
set_option maxRecDepth 3000 in
theorem SpsAt.step {A : Option Addr} {D : List Spx} (h : SpsAt (fun b => ¬ K b) w A D) (hs : Step K K' w w') : SpsAt (fun b => ¬ K' b) w' A D := by
  refine ⟨h.rd.chg hs.chg (fun hn a e => h.out hn a e), fun hn a e k => ?_, fun s h1 => (h.each s h1).step hs⟩
  obtain ⟨b, o, e2, hb, _⟩ := h.rd.2 hn
  rw [e] at e2
  cases e2
  rcases hs.new _ k with h1 | h1
  · exact h.out hn _ e h1
  · exact absurd hb (Nat.not_lt.2 h1)
set_option maxRecDepth 3000 in
theorem SpsAt.grows {ok : Nat → Prop} {A : Option Addr} {D : List Spx} (h : SpsAt ok w A D) (hg : Grows w w') : SpsAt ok w' A D := ⟨h.rd.grows hg, h.out, fun s h1 => (h.each s h1).grows hg⟩
set_option maxRecDepth 3000 in
theorem co_end (h : Co W X K g c w) (c' : CoV) (l : List SpV) (hn : coEnd c = (c', l)) (m : Nat) (hm : m = l.length) : Calls Try.prog 24 #[.pointer (some ⟨g, 0, none⟩)] w fun e w' => ∃ A cap, ∃ D : List Spx, e = .returned (.slice A m cap) ∧ D.map Spx.v = l ∧ Rd w' 3 A D.length (D.flatMap Spx.cells) ∧ (∀ s ∈ D, LRd (fun b => ¬ K b) w' s.A s.cap s.ins) ∧ Co W X K g c' w' ∧ Step K K w w' := by
  obtain ⟨ok, tv, rv, uv, wv, hv, dv, r, r2, D, hM, hX⟩ := h.at_
  refine (end_any hM).mono ?_
  rintro e w' ⟨A, cap, D', rfl, hv', ho, he, hk, hat, hc⟩
  rw [hn] at hv' hat
  obtain ⟨h1, h2⟩ := h.same hX hat hc
  have hdl : D'.length = m := by rw [hm]; have := congrArg List.length hv'; simpa using this
  refine ⟨A, cap, D', by rw [hdl], hv', ?_, (fun s hs => (he s hs).mono fun b _ hb e => hM.dis b e hb), h1, h2⟩
  exact rd_own3 ho
set_option maxRecDepth 3000 in
theorem co_abort (h : Co W X K g c w) : Calls Try.prog 13 #[.pointer (some ⟨g, 0, none⟩)] w fun e w' => e = .returned (.tuple #[]) ∧ Co W X K g (coAbort c) w' ∧ Step K K w w' := by
  obtain ⟨ok, tv, rv, uv, wv, hv, dv, r, r2, D, hM, hX⟩ := h.at_
  exact (abort_any hM).mono fun e w' ⟨h1, h2, h3⟩ => ⟨h1, h.same hX h2 h3⟩
set_option maxRecDepth 3000 in
theorem co_undo (h : Co W X K g c w) (c' : CoV) (n : Int) (l : List SpV) (hn : coUndo c = (c', n)) (hl : undoL c = l) (m : Nat) (hm : m = l.length) : Calls Try.prog 9 #[.pointer (some ⟨g, 0, none⟩)] w fun e w' => ∃ A cap D, e = .returned (.tuple #[.slice A m cap, .int .i64 n]) ∧ D.map Spx.v = l ∧ SpsAt (fun b => ¬ K b) w' A D ∧ Co W X K g c' w' ∧ Step K K w w' := by
  obtain ⟨ok, tv, rv, uv, wv, hv, dv, r, r2, D, hM, hX⟩ := h.at_
  refine (undo_any hM).mono ?_
  rintro e w' ⟨A, cap, D', rfl, hv', hr, hA, he, hat, hc⟩
  rw [hn] at hat ⊢
  rw [hl] at hv'
  obtain ⟨h1, h2⟩ := h.same hX hat hc
  have hdl : D'.length = m := by rw [hm]; have := congrArg List.length hv'; simpa using this
  exact ⟨A, cap, D', by rw [hdl], hv', ⟨hr, (fun _ a e k => by have := hA a e; have := h.lt _ k; omega), fun s hs => NewL2.keep h (he s hs)⟩, h1, h2⟩
end
set_option maxRecDepth 3000 in
theorem co_new (A : Option Addr) (n cap : Nat) (l : List (List UInt8)) (w : World) (hn : n = l.length) (hl : Came w A cap l) (h0 : lcheckV l = 0) (hd : l.length ≤ 1000000) (X : Nat → Prop) (hX : ∀ b, X b → b < w.heap.size) (W : World) (hW : Grows W w) :
    Calls Try.prog 27 #[.slice A n cap] w fun e w' => ∃ g K, e = .returned (.tuple #[.pointer (some ⟨g, 0, none⟩), .int .i64 0]) ∧ Co W X K g (coNew l) w' ∧ (∀ b, K b → w.heap.size ≤ b) ∧ Grows w w' := by
  subst hn
  refine (coNew_any A cap l w hl h0 hd X hX).mono ?_
  rintro e w' ⟨g, ok, K, rfl, ⟨tv, rv, uv, wv, hv, dv, r, r2, D, hM⟩, h1, h2, h3⟩
  refine ⟨g, K, rfl, ⟨⟨ok, tv, rv, uv, wv, hv, dv, r, r2, D, hM, h1⟩, hW.trans h3, fun b hb => Nat.le_trans hW.below.size (h2 b hb), fun b hb => ⟨fun e => ?_, Nat.lt_of_lt_of_le (hX b hb) h3.below.size⟩⟩, h2, h3⟩
  have := hX b hb; have := h2 b e; omega
end Go.Proofs.Ythanghgfakibnaa
