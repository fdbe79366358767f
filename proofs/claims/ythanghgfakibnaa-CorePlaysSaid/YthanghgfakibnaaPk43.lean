/-
  Core: the document's buffer: the contracts once more, with what its memory is made of out of sight.
-/
import Derived.Test.YthanghgfakibnaaPk40
import Derived.Test.YthanghgfakibnaaPk41
import Derived.Test.YthanghgfakibnaaPk42
namespace Go.Proofs.Ythanghgfakibnaa
open Go.RowKit

section
variable {W w w' w2 : World} {X K K' K2 : Nat → Prop} {g p : Nat} {c c' : CoV}
/-- What can be read of the document's buffer. -/
structure RoSee (X : Nat → Prop) (g : Nat) (c : CoV) (w : World) (A : Option Addr) (cap p : Nat) : Prop where
  cells : ∃ uv wv hv dv, blk w g = coC (.slice A c.s.L.length cap) c.s.cur c.s.ms (.string (tx c.last)) (.pointer (some ⟨p, 0, none⟩)) (.bool c.dirty) uv wv hv dv
  lines : LRd (fun b => ¬ X b) w A cap c.s.L
  regs : RefIs (fun b => ¬ X b) w p c.regs
  good : c.good
set_option maxRecDepth 3000 in
theorem Ro.see (h : Ro W X K g c w) : ∃ A cap p, RoSee X g c w A cap p := by
  obtain ⟨ok, tv, rv, uv, wv, hv, dv, r, r2, D, hM, hX⟩ := h.at_
  have hc := hM.cells
  obtain ⟨A, cap, rfl, hL⟩ := hM.lines
  obtain ⟨rfl, hR⟩ := hM.regs
  exact ⟨A, cap, r, ⟨_, _, _, _, hc⟩, hL.mono fun b _ h1 h2 => hX b h2 h1, hR.mono fun b _ h1 h2 => hX b h2 h1, hM.good⟩
set_option maxRecDepth 3000 in
theorem RoSee.grows {A : Option Addr} {cap : Nat} (h : RoSee X g c w A cap p) (hg : Grows w w') : RoSee X g c w' A cap p := by
  obtain ⟨uv, wv, hv, dv, e⟩ := h.cells
  exact ⟨⟨uv, wv, hv, dv, blk_grows e (by simp [coC_size]) hg⟩, h.lines.grows hg, h.regs.grows hg, h.good⟩
set_option maxRecDepth 3000 in
theorem RoSee.inh {A : Option Addr} {cap : Nat} (h : RoSee X g c w A cap p) : InHeap g w := by
  obtain ⟨uv, wv, hv, dv, e⟩ := h.cells
  exact co_in e
set_option maxRecDepth 3000 in
theorem RoSee.five {A : Option Addr} {cap : Nat} (h : RoSee X g c w A cap p) : w.cell? ⟨g, 0, none⟩ = some (.slice A c.s.L.length cap) ∧ w.cell? ⟨g, 1, none⟩ = some (.int .i64 c.s.cur) ∧ w.cell? ⟨g, 28, none⟩ = some (.string (tx c.last)) ∧ w.cell? ⟨g, 29, none⟩ = some (.pointer (some ⟨p, 0, none⟩)) ∧ w.cell? ⟨g, 30, none⟩ = some (.bool c.dirty) := by
  obtain ⟨uv, wv, hv, dv, e⟩ := h.cells
  obtain ⟨q0, q1, q28, q29, q30, -⟩ := co_cells e h.good.s.many
  exact ⟨q0, q1, q28, q29, q30⟩
set_option maxRecDepth 3000 in
theorem RoSee.free {A : Option Addr} {cap : Nat} (h : RoSee X g c w A cap p) (i : Nat) : w.frozen? ⟨g, i, none⟩ = false := by
  obtain ⟨uv, wv, hv, dv, e⟩ := h.cells
  exact co_free e i
set_option maxRecDepth 3000 in
theorem RoSee.marks {A : Option Addr} {cap : Nat} (h : RoSee X g c w A cap p) : span (blk w g) 2 26 = MA c.s.ms ∧ 28 ≤ (blk w g).size := by
  obtain ⟨uv, wv, hv, dv, e⟩ := h.cells
  rw [e]
  exact ⟨coC_marks _ _ _ _ _ _ _ _ _ _ h.good.s.many, by rw [coC_size, h.good.s.many]; omega⟩
/-! ### what is called -/
set_option maxRecDepth 3000 in
theorem ro_begin (h : Ro W X K g c w) (c' : CoV) (n : Int) (hn : coBegin c = (c', n)) : Calls Try.prog 56 #[.pointer (some ⟨g, 0, none⟩)] w fun e w' => e = .returned (.int .i64 n) ∧ ∃ K', Ro W X K' g c' w' ∧ Step K K' w w' := by
  obtain ⟨ok, tv, rv, uv, wv, hv, dv, r, r2, D, hM, hX⟩ := h.at_
  have := refBegin_any hM
  rw [hn] at this
  exact this.mono fun e w' ⟨h1, h2⟩ => ⟨h1, h.moved hX h2⟩
set_option maxRecDepth 3000 in
theorem ro_splice (h : Ro W X K g c w) (at_ del : Int) (I : Option Addr) (m ci : Nat) (ins : List (List UInt8)) (hm : m = ins.length) (ha : I64 at_) (hd : I64 del) (hI : LRd (fun b => b < W.heap.size) w I ci ins) (hl : ∀ s ∈ ins, s.length ≤ 9223372036854775807) (hi : ins.length ≤ 1000000) (hdn : c.did.length ≤ 1000000) (c' : CoV) (n : Int) (hn : coSplice c ⟨at_, del, ins⟩ = (c', n)) :
    Calls Try.prog 57 #[.pointer (some ⟨g, 0, none⟩), .agg #[.int .i64 at_, .int .i64 del, .slice I m ci]] w fun e w' => e = .returned (.int .i64 n) ∧ ∃ K', Ro W X K' g c' w' ∧ Step K K' w w' := by
  subst hm
  obtain ⟨ok, tv, rv, uv, wv, hv, dv, r, r2, D, hM, hX⟩ := h.at_
  have := refSplice19_any hM at_ del I ci ins ha hd (hI.mono fun b _ hb => hM.under b hb) hl hi hdn
  rw [hn] at this
  exact this.mono fun e w' ⟨h1, h2⟩ => ⟨h1, h.moved hX h2⟩
set_option maxRecDepth 3000 in
theorem ro_go (h : Ro W X K g c w) (line : Int) (hl : I64 line) (c' : CoV) (n : Int) (hn : coGo c line = (c', n)) : Calls Try.prog 61 #[.pointer (some ⟨g, 0, none⟩), .int .i64 line] w fun e w' => e = .returned (.int .i64 n) ∧ ∃ K', Ro W X K' g c' w' ∧ Step K K' w w' := by
  obtain ⟨ok, tv, rv, uv, wv, hv, dv, r, r2, D, hM, hX⟩ := h.at_
  have := refGo_any hM line hl
  rw [hn] at this
  exact this.mono fun e w' ⟨h1, h2⟩ => ⟨h1, h.moved hX h2⟩
set_option maxRecDepth 3000 in
theorem ro_mark (h : Ro W X K g c w) (letter line : Int) (h0 : 0 ≤ letter) (h1 : letter ≤ 255) (c' : CoV) (n : Int) (hn : coMark c letter line = (c', n)) : Calls Try.prog 62 #[.pointer (some ⟨g, 0, none⟩), .int .u8 letter, .int .i64 line] w fun e w' => e = .returned (.int .i64 n) ∧ ∃ K', Ro W X K' g c' w' ∧ Step K K' w w' := by
  obtain ⟨ok, tv, rv, uv, wv, hv, dv, r, r2, D, hM, hX⟩ := h.at_
  have := refMark_any hM letter line h0 h1
  rw [hn] at this
  exact this.mono fun e w' ⟨h1, h2⟩ => ⟨h1, h.moved hX h2⟩
set_option maxRecDepth 3000 in
theorem ro_end (h : Ro W X K g c w) (c' : CoV) (l : List SpV) (hn : coEnd c = (c', l)) (m : Nat) (hm : m = l.length) : Calls Try.prog 58 #[.pointer (some ⟨g, 0, none⟩)] w fun e w' => ∃ A cap, ∃ D : List Spx, e = .returned (.slice A m cap) ∧ D.map Spx.v = l ∧ Rd w' 3 A D.length (D.flatMap Spx.cells) ∧ (∀ s ∈ D, LRd (fun b => ¬ K b) w' s.A s.cap s.ins) ∧ Ro W X K g c' w' ∧ Step K K w w' := by
  obtain ⟨ok, tv, rv, uv, wv, hv, dv, r, r2, D, hM, hX⟩ := h.at_
  refine (refEnd_any hM).mono ?_
  rintro e w' ⟨A, cap, D', rfl, hv', ho, he, hk, hat, hc⟩
  rw [hn] at hv' hat
  obtain ⟨h1, h2⟩ := h.same hX hat hc
  have hdl : D'.length = m := by rw [hm]; have := congrArg List.length hv'; simpa using this
  refine ⟨A, cap, D', by rw [hdl], hv', ?_, (fun s hs => (he s hs).mono fun b _ hb e => hM.dis b e hb), h1, h2⟩
  exact rd_own3 ho
set_option maxRecDepth 3000 in
theorem ro_abort (h : Ro W X K g c w) : Calls Try.prog 59 #[.pointer (some ⟨g, 0, none⟩)] w fun e w' => e = .returned (.tuple #[]) ∧ Ro W X K g (coAbort c) w' ∧ Step K K w w' := by
  obtain ⟨ok, tv, rv, uv, wv, hv, dv, r, r2, D, hM, hX⟩ := h.at_
  exact (refAbort_any hM).mono fun e w' ⟨h1, h2, h3⟩ => ⟨h1, h.same hX h2 h3⟩
set_option maxRecDepth 3000 in
theorem ro_back (h : Ro W X K g c w) (c' : CoV) (n : Int) (hn : coUndo c = (c', n)) : Calls Try.prog 60 #[.pointer (some ⟨g, 0, none⟩)] w fun e w' => e = .returned (.int .i64 n) ∧ Ro W X K g c' w' ∧ Step K K w w' := by
  obtain ⟨ok, tv, rv, uv, wv, hv, dv, r, r2, D, hM, hX⟩ := h.at_
  have := refBack_any hM
  unfold BackOut at this
  rw [hn] at this
  exact this.mono fun e w' ⟨h1, h2, h3⟩ => ⟨h1, h.same hX h2 h3⟩
/-- Where the document's registers lie. -/
def RatR (W : World) (X K : Nat → Prop) (g : Nat) (c : CoV) (w : World) (p : Nat) : Prop := ∃ ok tv uv wv hv dv r2 D, CoreM kR W.heap.size ok K w g c tv (.pointer (some ⟨p, 0, none⟩)) uv wv hv dv p r2 D ∧ ∀ b, X b → ¬ ok b
set_option maxRecDepth 3000 in
theorem Ro.rat (h : Ro W X K g c w) : ∃ p, RatR W X K g c w p := by
  obtain ⟨ok, tv, rv, uv, wv, hv, dv, r, r2, D, hM, hX⟩ := h.at_
  obtain ⟨rfl, -⟩ := hM.regs
  exact ⟨r, ok, tv, uv, wv, hv, dv, r2, D, hM, hX⟩
set_option maxRecDepth 3000 in
theorem RatR.grows (h : RatR W X K g c w p) (hg : Grows w w') : RatR W X K g c w' p := by
  obtain ⟨ok, tv, uv, wv, hv, dv, r2, D, hM, hX⟩ := h
  exact ⟨ok, tv, uv, wv, hv, dv, r2, D, hM.grows hg, hX⟩
set_option maxRecDepth 3000 in
theorem RatR.cell (h : RatR W X K g c w p) : w.cell? ⟨g, 29, none⟩ = some (.pointer (some ⟨p, 0, none⟩)) := by
  obtain ⟨ok, tv, uv, wv, hv, dv, r2, D, hM, hX⟩ := h
  exact (co_cells hM.cells hM.good.s.many).2.2.2.1
set_option maxRecDepth 3000 in
theorem ratR_set {okx : Nat → Prop} (hC : Ro W X K g c w) (h : RatR W X K g c w p) (l : Int) (k : Nat) (hl : l = k) (hk9 : k < 256) (A : Option Addr) (n cap : Nat) (b : Bool) (x : Rg) (hn : n = x.d.length) (hb : b = x.whole) (hx : LRd okx w A cap x.d) (hox : ∀ b, okx b → ¬ K b) (hf : x.fits) (c' : CoV) (m : Int) (hm : coSet c k x = (c', m)) :
    Calls Try.prog 63 #[.pointer (some ⟨p, 0, none⟩), .int .u8 l, .agg #[.slice A n cap, .bool b]] w fun e w' => e = .returned (.int .i64 m) ∧ Ro W X K g c' w' ∧ Step K K w w' ∧ w'.cell? ⟨g, 29, none⟩ = some (.pointer (some ⟨p, 0, none⟩)) := by
  subst hl hn hb
  obtain ⟨ok, tv, uv, wv, hv, dv, r2, D, hM, hX⟩ := h
  obtain ⟨-, hR⟩ := hM.regs
  refine (refSet_lit p c.regs k k rfl A cap x w hR hx hf hM.top (hM.dis p hM.Kr) (fun b h1 e => hox b h1 (e ▸ hM.Kr)) hk9).mono ?_
  rintro e w' ⟨rfl, hc, hR'⟩
  have := hM.setRegs hc (S := (rset c.regs k x).1) ⟨rfl, hR'⟩
  have h2 := hC.same hX this.at_ (hc.mono fun b _ e => e ▸ hM.Kr)
  have e1 : ({ c with regs := (rset c.regs k x).1 } : CoV) = c' := congrArg Prod.fst hm
  have e2 : (rset c.regs k x).2 = m := congrArg Prod.snd hm
  rw [e1] at h2
  exact ⟨by rw [e2], h2.1, h2.2, (co_cells this.cells this.good.s.many).2.2.2.1⟩
set_option maxRecDepth 3000 in
/-- Clean, and a pattern, laid into the document's buffer. -/
theorem ro_clean (h : Ro W X K g c w) : Ro W X K g { c with dirty := false } (w.setCell ⟨g, 30, none⟩ (.bool false)) ∧ Step K K w (w.setCell ⟨g, 30, none⟩ (.bool false)) := by
  obtain ⟨ok, tv, rv, uv, wv, hv, dv, r, r2, D, hM, hX⟩ := h.at_
  have := hM.self (c' := { c with dirty := false }) (chg_one (K := fun b => b = g) rfl) ((co_put hM.cells (by simp [coC_size]) 30 _).trans (coC_set30 _ _ _ _ _ _ _ _ _ _ _ hM.good.s.many)) rfl rfl rfl rfl rfl ⟨hM.good.s, hM.good.undo, hM.good.was, hM.good.did⟩
  exact h.same hX this.at_ (chg_one hM.Kg)
set_option maxRecDepth 3000 in
theorem ro_last (h : Ro W X K g c w) (re : List UInt8) : Ro W X K g { c with last := re } (w.setCell ⟨g, 28, none⟩ (.string (tx re))) ∧ Step K K w (w.setCell ⟨g, 28, none⟩ (.string (tx re))) := by
  obtain ⟨ok, tv, rv, uv, wv, hv, dv, r, r2, D, hM, hX⟩ := h.at_
  have := hM.self (c' := { c with last := re }) (chg_one (K := fun b => b = g) rfl) ((co_put hM.cells (by simp [coC_size]) 28 _).trans (coC_set28 _ _ _ _ _ _ _ _ _ _ _ hM.good.s.many)) rfl rfl rfl rfl rfl ⟨hM.good.s, hM.good.undo, hM.good.was, hM.good.did⟩
  exact h.same hX this.at_ (chg_one hM.Kg)
end
end Go.Proofs.Ythanghgfakibnaa
