/-
  Several texts of the proof: CoreTwo, CoreHoldR.
-/
import Derived.Test.YthanghgfakibnaaPk39
/-
  Chapter 19: two buffers beside each other; a buffer's registers.
-/
namespace Go.Proofs.Ythanghgfakibnaa
open Go.RowKit

section
variable {k : Kd} {base : Nat} {ok ok' K q : Nat → Prop} {w w' : World} {g r r2 : Nat} {c : CoV} {tv rv uv wv hv dv v : Value} {D : List Spx}
set_option maxRecDepth 3000 in
/-- Other blocks change, and what is leant on is told anew. -/
theorem CoreM.move (h : CoreM k base ok K w g c tv rv uv wv hv dv r r2 D) (hc : Chg q w w') (hq : ∀ b, q b → ¬ ok b ∧ ¬ K b) (ho : ∀ b, b < w.heap.size → ok b → ok' b) (hs : ∀ b, ok' b → ok b) (hd : ∀ b, K b → ¬ ok' b) (ht : ∀ b, w'.heap.size ≤ b → ok' b) (hu : ∀ b, b < base → ok' b) : CoreM k base ok' K w' g c tv rv uv wv hv dv r r2 D := by
  have hqo : ∀ b, b < w.heap.size → ok' b → ¬ q b := fun b _ h1 h2 => (hq b h2).1 (hs b h1)
  have hK : ∀ {b}, K b → ¬ q b := fun {b} h1 h2 => (hq b h2).2 h1
  refine ⟨(hc.blk (h.lt h.Kg) (hK h.Kg)).trans h.cells, k.lhChg (k.lhMono h.lines ho) hc hqo, k.rgChg (k.rgMono h.regs ho) hc (hK h.Kr) hqo, ?_, ?_, ?_, h.didV, fun s hs => ((h.each s hs).mono ho).chg hc hqo, h.dK, h.Kg, h.Kr, h.ne, hd, ht, h.low, hu, h.good⟩
  · have hu := h.undo
    have hg := h.good.undo
    cases hcu : c.undo with
    | none => rw [hcu] at hu; exact hu
    | some s => rw [hcu] at hu; exact StAt.chg (StAt.mono hu ho) (hg s hcu).many hc hqo
  · have hw := h.was
    have hg := h.good.was
    cases hcw : c.was with
    | none => rw [hcw] at hw; exact hw
    | some y =>
      rw [hcw] at hw
      exact ⟨StAt.chg (StAt.mono hw.1 ho) (hg y hcw).many hc hqo, k.rgChg (k.rgMono hw.2.1 ho) hc (hK hw.2.2.1) hqo, hw.2.2⟩
  · obtain ⟨h1, h2⟩ := h.did
    refine ⟨h1, h2.elim Or.inl ?_⟩
    rintro ⟨b, cap, cur, hv2, hb, hh, rr⟩
    exact Or.inr ⟨b, cap, cur, hv2, hb, by rw [hc.block b (Array.getElem?_eq_some_iff.1 hh).1 (hK (h.dK b (by rw [hv2]; rfl)).1)]; exact hh, rr⟩
end
section
variable {W w w' : World} {X Y K K' K2 q : Nat → Prop} {g g2 : Nat} {c c' c2 : CoV}
set_option maxRecDepth 3000 in
/-- Blocks of others change, and new ones are others'. -/
theorem Co.beside (h : Co W X K g c w) (hc : Chg X w w') (hY : ∀ b, Y b → (X b ∨ w.heap.size ≤ b) ∧ b < w'.heap.size) (hG : Grows W w') : Co W Y K g c w' := by
  obtain ⟨ok, tv, rv, uv, wv, hv, dv, r, r2, D, hM, hX⟩ := h.at_
  have hKY : ∀ b, K b → ¬ Y b := fun b hk hy => by
    rcases (hY b hy).1 with h1 | h1
    · exact (h.out b h1).1 hk
    · have := hM.lt hk; omega
  refine ⟨⟨fun b => ok b ∧ ¬ Y b, tv, rv, uv, wv, hv, dv, r, r2, D, hM.move (q := X) hc (fun b hb => ⟨hX b hb, (h.out b hb).1⟩) (fun b hb h1 => ⟨h1, fun hy => ?_⟩) (fun b h1 => h1.1) (fun b hk h1 => hM.dis b hk h1.1) (fun b hb => ⟨hM.top b (Nat.le_trans hc.size hb), fun hy => by have := (hY b hy).2; omega⟩) (fun b hb => absurd hb (Nat.not_lt_zero _)), fun b hy h1 => h1.2 hy⟩, hG, h.low, fun b hy => ⟨fun hk => hKY b hk hy, (hY b hy).2⟩⟩
  · rcases (hY b hy).1 with h2 | h2
    · exact hX b h2 h1
    · omega
/-- Two buffers, neither of which leans on the other. -/
structure Two (W : World) (K K2 : Nat → Prop) (g g2 : Nat) (c c2 : CoV) (w : World) : Prop where
  a : Co W K2 K g c w
  b : Co W K K2 g2 c2 w
set_option maxRecDepth 3000 in
theorem Two.stepA (h : Two W K K2 g g2 c c2 w) (ha : Co W K2 K' g c' w') (hs : Step K K' w w') : Two W K' K2 g g2 c' c2 w' :=
  ⟨ha, h.b.beside hs.chg (fun b hb => ⟨hs.new b hb, ha.lt b hb⟩) ha.grown⟩
set_option maxRecDepth 3000 in
theorem Two.stepB (h : Two W K K2 g g2 c c2 w) (hb : Co W K K' g2 c' w') (hs : Step K2 K' w w') : Two W K K' g g2 c c' w' :=
  ⟨h.a.beside hs.chg (fun b hb2 => ⟨hs.new b hb2, hb.lt b hb2⟩) hb.grown, hb⟩
set_option maxRecDepth 3000 in
theorem Two.grows (h : Two W K K2 g g2 c c2 w) (hg : Grows w w') : Two W K K2 g g2 c c2 w' := ⟨h.a.grows hg, h.b.grows hg⟩
set_option maxRecDepth 3000 in
theorem Two.start (h : Co W (fun _ => False) K g c w) (hg : Grows w w') (h2 : Co W K K2 g2 c2 w') (hK : ∀ b, K2 b → w.heap.size ≤ b) : Two W K K2 g g2 c c2 w' :=
  ⟨h.beside (Chg.of_grows hg) (fun b hb => ⟨.inr (hK b hb), h2.lt b hb⟩) h2.grown, h2⟩
/-! ### the registers -/
/-- Where a buffer's registers lie. -/
def Rat (X K : Nat → Prop) (g : Nat) (c : CoV) (w : World) (p : Nat) : Prop := ∃ ok tv uv wv hv dv r r2 D, CoreM kI 0 ok K w g c tv (.pointer (some ⟨p, 0, none⟩)) uv wv hv dv r r2 D ∧ Regs ok w p r c.regs ∧ ok p ∧ ∀ b, X b → ¬ ok b
set_option maxRecDepth 3000 in
theorem Co.rat (h : Co W X K g c w) : ∃ p, Rat X K g c w p := by
  obtain ⟨ok, tv, rv, uv, wv, hv, dv, r, r2, D, hM, hX⟩ := h.at_
  obtain ⟨p, rfl, hR, hp⟩ := hM.regs
  exact ⟨p, ok, tv, uv, wv, hv, dv, r, r2, D, hM, hR, hp, hX⟩
set_option maxRecDepth 3000 in
theorem Rat.grows {p : Nat} (h : Rat X K g c w p) (hg : Grows w w') : Rat X K g c w' p := by
  obtain ⟨ok, tv, uv, wv, hv, dv, r, r2, D, hM, hR, hp, hX⟩ := h
  exact ⟨ok, tv, uv, wv, hv, dv, r, r2, D, hM.grows hg, hR.grows hg, hp, hX⟩
set_option maxRecDepth 3000 in
theorem rat_regs {p : Nat} (h : Rat X K g c w p) : Calls Try.prog 20 #[.pointer (some ⟨g, 0, none⟩)] w fun e w' => e = .returned (.pointer (some ⟨p, 0, none⟩)) ∧ w = w' := by
  obtain ⟨ok, tv, uv, wv, hv, dv, r, r2, D, hM, hR, hp, hX⟩ := h
  obtain ⟨T, rfl, -⟩ := hM.lines
  obtain ⟨q0, -, -, q29, -⟩ := co_cells hM.cells hM.good.s.many
  exact coRegs g T.g p w q0 q29
set_option maxRecDepth 3000 in
theorem rat_set {okx : Nat → Prop} {p : Nat} (hC : Co W X K g c w) (h : Rat X K g c w p) (l : Int) (k : Nat) (hl : l = k) (A : Option Addr) (n cap : Nat) (b : Bool) (x : Rg) (hn : n = x.d.length) (hb : b = x.whole) (hx : LRd okx w A cap x.d) (hf : x.fits) :
    Calls Try.prog 30 #[.pointer (some ⟨p, 0, none⟩), .int .u8 l, .agg #[.slice A n cap, .bool b]] w fun e w' => e = .returned (.int .i64 (coSet c k x).2) ∧ Co W X K g (coSet c k x).1 w' ∧ Step K K w w' := by
  subst hl
  obtain ⟨ok, tv, uv, wv, hv, dv, r, r2, D, hM, hR, hp, hX⟩ := h
  refine (set_lit p r c.regs k k rfl A n cap b x hn hb w hR hx hf hM.top (hM.dis r hM.Kr)).mono ?_
  rintro e w' ⟨rfl, hc, hR'⟩
  have := hM.setRegs hc (S := (rset c.regs k x).1) ⟨p, rfl, hR', hp⟩
  exact ⟨rfl, hC.same hX this.at_ (hc.mono fun b _ e => e ▸ hM.Kr)⟩
set_option maxRecDepth 3000 in
theorem rat_get {p : Nat} (hC : Co W X K g c w) (h : Rat X K g c w p) (l : Int) (k : Nat) (hl : l = k) (y : Rg) (n : Int) (hy : rget c.regs k = (y, n)) (m : Nat) (hm : m = y.d.length) (b : Bool) (hb : b = y.whole) :
    Calls Try.prog 31 #[.pointer (some ⟨p, 0, none⟩), .int .u8 l] w fun e w' => ∃ A cap, e = .returned (.tuple #[.agg #[.slice A m cap, .bool b], .int .i64 n]) ∧ LRd (fun b => ¬ K b) w' A cap y.d ∧ Grows w w' := by
  subst hm hb hl
  obtain ⟨ok, tv, uv, wv, hv, dv, r, r2, D, hM, hR, hp, hX⟩ := h
  refine (get_lit p r c.regs k k rfl w hR y n hy).mono ?_
  rintro e w' ⟨A, cap, rfl, hA, hg⟩
  exact ⟨A, cap, rfl, NewL2.keep hC hA, hg⟩
end
set_option maxRecDepth 3000 in
theorem lrd_one {ok : Nat → Prop} {w : World} {g : Nat} {s : List UInt8} (h : w.cell? ⟨g, 0, none⟩ = some (.string (tx s))) (ho : ok g) : LRd ok w (some ⟨g, 0, none⟩) 1 [s] := by
  refine ⟨⟨rfl, fun _ => ⟨g, 0, rfl, World.block_lt_of_cell? w _ h, fun j u hj => ?_⟩⟩, (fun e => by cases e), Nat.le_refl _, by simp, fun _ a e => by cases e; exact ho⟩
  match j, hj with
  | 0, hj => cases hj; exact h
/-! ### what an abort leaves -/
/-- What an act of a change that is left leaves. -/
def chAct (c : CoV) (s : AcC) : CoV :=
  if s.kind % 12 = 1 ∨ s.kind % 12 = 2 ∨ s.kind % 12 = 3 then (coSplice c s.sp).1 else if s.kind % 12 = 7 then (coGo c s.line).1 else if s.kind % 12 = 8 then (coMark c s.letter s.line).1 else
  if s.kind % 12 = 9 then (coSet c s.letter ⟨[s.text], false⟩).1 else c
def chActs (c : CoV) (L : List AcC) : CoV := L.foldl chAct c
set_option maxRecDepth 3000 in
theorem chActs_take (c : CoV) (L : List AcC) (k : Nat) (h : k < L.length) : chActs c (L.take (k + 1)) = chAct (chActs c (L.take k)) L[k] := by
  unfold chActs
  rw [List.take_add_one, List.getElem?_eq_getElem h, List.foldl_append]
  rfl
/-- What a change that has begun keeps of the buffer ahead of it. -/
structure InAb (b c : CoV) : Prop where
  was : c.was = some (b.s, b.regs)
  undo : c.undo = b.undo
  dirty : c.dirty = b.dirty
set_option maxRecDepth 3000 in
theorem InAb.start {b : CoV} (h : b.was = none) : InAb b (coBegin b).1 := by rw [coBegin_none h]; exact ⟨rfl, rfl, rfl⟩
set_option maxRecDepth 3000 in
theorem InAb.splice {b c : CoV} (h : InAb b c) (x : SpV) : InAb b (coSplice c x).1 := by
  unfold coSplice
  split
  · exact h
  · split
    · exact h
    · exact ⟨h.was, h.undo, h.dirty⟩
set_option maxRecDepth 3000 in
theorem InAb.act {b c : CoV} (h : InAb b c) (s : AcC) : InAb b (chAct c s) := by
  unfold chAct
  split
  · exact h.splice _
  · split
    · unfold coGo
      split
      · exact h
      · exact ⟨h.was, h.undo, h.dirty⟩
    · split
      · unfold coMark
        split
        · exact ⟨h.was, h.undo, h.dirty⟩
        · exact h
      · split
        · exact ⟨h.was, h.undo, h.dirty⟩
        · exact h
set_option maxRecDepth 3000 in
theorem InAb.acts {b c : CoV} (h : InAb b c) (L : List AcC) : InAb b (chActs c L) := by
  unfold chActs
  induction L generalizing c with
  | nil => exact h
  | cons s L ih => exact ih (h.act s)
set_option maxRecDepth 3000 in
theorem chAct_did (c : CoV) (s : AcC) : (chAct c s).did.length ≤ c.did.length + 1 := by
  unfold chAct
  split
  · exact coSplice_did c _
  · split
    · unfold coGo; split <;> simp
    · split
      · unfold coMark; split <;> simp
      · split
        · simp [coSet]
        · simp
set_option maxRecDepth 3000 in
theorem chActs_did (c : CoV) (L : List AcC) : (chActs c L).did.length ≤ c.did.length + L.length := by
  unfold chActs
  induction L generalizing c with
  | nil => simp
  | cons s L ih =>
    have := ih (chAct c s)
    have := chAct_did c s
    simp only [List.foldl_cons, List.length_cons]
    omega
/-- Two buffers that look the same. -/
structure Alike (c o : CoV) : Prop where
  s : c.s = o.s
  regs : c.regs = o.regs
  dirty : c.dirty = o.dirty
  undo : c.undo = o.undo
  wasC : c.was = none
  wasO : o.was = none
set_option maxRecDepth 3000 in
theorem InAb.abort {b c : CoV} (h : InAb b c) (hb : b.was = none) : Alike (coAbort c) b := by
  unfold coAbort
  rw [h.was]
  exact ⟨rfl, rfl, h.dirty, h.undo, rfl, hb⟩
set_option maxRecDepth 3000 in
theorem Alike.back {c o : CoV} (h : Alike c o) : Alike (coUndo c).1 (coUndo o).1 ∧ (coUndo c).2 = (coUndo o).2 := by
  unfold coUndo
  rw [h.wasC, h.wasO, h.undo]
  split
  · exact ⟨h, rfl⟩
  · split
    · exact ⟨h, rfl⟩
    · exact ⟨⟨rfl, h.regs, rfl, by simp [h.s], by first | exact h.wasC | rfl, by first | exact h.wasO | rfl⟩, rfl⟩
end Go.Proofs.Ythanghgfakibnaa

/-
  Core: a buffer of the document, with what its memory is made of out of sight; the two beside each other.
-/
namespace Go.Proofs.Ythanghgfakibnaa
open Go.RowKit

/-- The document's buffer, whose own blocks (K) are younger than W, that leans on none of X. -/
structure Ro (W : World) (X K : Nat → Prop) (g : Nat) (c : CoV) (w : World) : Prop where
  at_ : ∃ ok tv rv uv wv hv dv r r2 D, CoreM kR W.heap.size ok K w g c tv rv uv wv hv dv r r2 D ∧ ∀ b, X b → ¬ ok b
  grown : Grows W w
  low : ∀ b, K b → W.heap.size ≤ b
  out : ∀ b, X b → ¬ K b ∧ b < w.heap.size
section
variable {W w w' : World} {X Y K K' K2 q : Nat → Prop} {g g2 : Nat} {c c' c2 : CoV}
set_option maxRecDepth 3000 in
theorem Ro.good (h : Ro W X K g c w) : c.good := by
  obtain ⟨ok, tv, rv, uv, wv, hv, dv, r, r2, D, hM, -⟩ := h.at_
  exact hM.good
set_option maxRecDepth 3000 in
theorem Ro.lt (h : Ro W X K g c w) (b : Nat) (hb : K b) : b < w.heap.size := by
  obtain ⟨ok, tv, rv, uv, wv, hv, dv, r, r2, D, hM, -⟩ := h.at_
  exact hM.lt hb
set_option maxRecDepth 3000 in
theorem Ro.grows (h : Ro W X K g c w) (hg : Grows w w') : Ro W X K g c w' := by
  obtain ⟨ok, tv, rv, uv, wv, hv, dv, r, r2, D, hM, hX⟩ := h.at_
  exact ⟨⟨ok, tv, rv, uv, wv, hv, dv, r, r2, D, hM.grows hg, hX⟩, h.grown.trans hg, h.low, fun b hb => ⟨(h.out b hb).1, Nat.lt_of_lt_of_le (h.out b hb).2 hg.below.size⟩⟩
set_option maxRecDepth 3000 in
theorem Ro.moved (h : Ro W X K g c w) {ok : Nat → Prop} (hX : ∀ b, X b → ¬ ok b) (hm : Moved kR W.heap.size ok K g w c' w') : ∃ K', Ro W X K' g c' w' ∧ Step K K' w w' := by
  obtain ⟨ok', K', ⟨tv, rv, uv, wv, hv, dv, r, r2, D, hM⟩, hc, -, ho, hK⟩ := hm
  refine ⟨K', ⟨⟨ok', tv, rv, uv, wv, hv, dv, r, r2, D, hM, fun b hb e => hX b hb (ho b e)⟩, Chg.grows (n := 0) h.grown hc h.low, fun b hb => ?_, fun b hb => ⟨fun e => ?_, Nat.lt_of_lt_of_le (h.out b hb).2 hc.size⟩⟩, hc, hK⟩
  · rcases hK b hb with h1 | h1
    · exact h.low b h1
    · exact Nat.le_trans h.grown.below.size h1
  · rcases hK b e with h1 | h1
    · exact (h.out b hb).1 h1
    · have := (h.out b hb).2; omega
set_option maxRecDepth 3000 in
theorem Ro.same (h : Ro W X K g c w) {ok : Nat → Prop} (hX : ∀ b, X b → ¬ ok b) (hm : CoreAt kR W.heap.size ok K w' g c') (hc : Chg K w w') : Ro W X K g c' w' ∧ Step K K w w' := by
  obtain ⟨tv, rv, uv, wv, hv, dv, r, r2, D, hM⟩ := hm
  exact ⟨⟨⟨ok, tv, rv, uv, wv, hv, dv, r, r2, D, hM, hX⟩, Chg.grows (n := 0) h.grown hc h.low, h.low, fun b hb => ⟨(h.out b hb).1, Nat.lt_of_lt_of_le (h.out b hb).2 hc.size⟩⟩, hc, fun _ h => .inl h⟩
set_option maxRecDepth 3000 in
/-- Blocks of others change, and new ones are others'. -/
theorem Ro.beside (h : Ro W X K g c w) (hc : Chg X w w') (hY : ∀ b, Y b → (X b ∨ w.heap.size ≤ b) ∧ b < w'.heap.size) (hL : ∀ b, Y b → W.heap.size ≤ b) (hG : Grows W w') : Ro W Y K g c w' := by
  obtain ⟨ok, tv, rv, uv, wv, hv, dv, r, r2, D, hM, hX⟩ := h.at_
  have hKY : ∀ b, K b → ¬ Y b := fun b hk hy => by
    rcases (hY b hy).1 with h1 | h1
    · exact (h.out b h1).1 hk
    · have := hM.lt hk; omega
  refine ⟨⟨fun b => ok b ∧ ¬ Y b, tv, rv, uv, wv, hv, dv, r, r2, D, hM.move (q := X) hc (fun b hb => ⟨hX b hb, (h.out b hb).1⟩) (fun b hb h1 => ⟨h1, fun hy => ?_⟩) (fun b h1 => h1.1) (fun b hk h1 => hM.dis b hk h1.1) (fun b hb => ⟨hM.top b (Nat.le_trans hc.size hb), fun hy => by have := (hY b hy).2; omega⟩) (fun b hb => ⟨hM.under b hb, fun hy => by have := hL b hy; omega⟩), fun b hy h1 => h1.2 hy⟩, hG, h.low, fun b hy => ⟨fun hk => hKY b hk hy, (hY b hy).2⟩⟩
  · rcases (hY b hy).1 with h2 | h2
    · exact hX b h2 h1
    · omega
/-- The package's buffer and the document's, neither of which leans on the other. -/
structure Duo (W : World) (K K2 : Nat → Prop) (g g2 : Nat) (c c2 : CoV) (w : World) : Prop where
  a : Co W K2 K g c w
  b : Ro W K K2 g2 c2 w
set_option maxRecDepth 3000 in
theorem Duo.stepA (h : Duo W K K2 g g2 c c2 w) (ha : Co W K2 K' g c' w') (hs : Step K K' w w') : Duo W K' K2 g g2 c' c2 w' :=
  ⟨ha, h.b.beside hs.chg (fun b hb => ⟨hs.new b hb, ha.lt b hb⟩) ha.low ha.grown⟩
set_option maxRecDepth 3000 in
theorem Duo.stepB (h : Duo W K K2 g g2 c c2 w) (hb : Ro W K K' g2 c' w') (hs : Step K2 K' w w') : Duo W K K' g g2 c c' w' :=
  ⟨h.a.beside hs.chg (fun b hb2 => ⟨hs.new b hb2, hb.lt b hb2⟩) hb.grown, hb⟩
set_option maxRecDepth 3000 in
theorem Duo.grows (h : Duo W K K2 g g2 c c2 w) (hg : Grows w w') : Duo W K K2 g g2 c c2 w' := ⟨h.a.grows hg, h.b.grows hg⟩
set_option maxRecDepth 3000 in
theorem Duo.start (h : Co W (fun _ => False) K g c w) (hg : Grows w w') (h2 : Ro W K K2 g2 c2 w') (hK : ∀ b, K2 b → w.heap.size ≤ b) : Duo W K K2 g g2 c c2 w' :=
  ⟨h.beside (Chg.of_grows hg) (fun b hb => ⟨.inr (hK b hb), h2.lt b hb⟩) h2.grown, h2⟩
end
end Go.Proofs.Ythanghgfakibnaa
