/-
  Core: what a buffer is in memory, of either kind (the package's, the document's), and what stays of it.
-/
import Derived.Test.YthanghgfakibnaaPk25
namespace Go.Proofs.Ythanghgfakibnaa
open Go.RowKit

set_option maxRecDepth 3000 in
theorem Chg.heap {p : Nat → Prop} {w w' : World} (h : Chg p w w') {b : Nat} (hb : b < w.heap.size) (hp : ¬ p b) : w'.heap[b]? = w.heap[b]? := h.block b hb hp
set_option maxRecDepth 3000 in
theorem Chg.blk {p : Nat → Prop} {w w' : World} (h : Chg p w w') {b : Nat} (hb : b < w.heap.size) (hp : ¬ p b) : blk w' b = blk w b := by
  unfold Go.Proofs.Ythanghgfakibnaa.blk; rw [h.block b hb hp]
/-- How lines and registers lie in memory. -/
structure Kd where
  LH : (Nat → Prop) → World → Value → List (List UInt8) → Prop
  RG : (Nat → Prop) → World → Value → RS → Nat → Prop
  lhChg : ∀ {ok q w w' v L}, LH ok w v L → Chg q w w' → (∀ b, b < w.heap.size → ok b → ¬ q b) → LH ok w' v L
  lhMono : ∀ {ok ok' w v L}, LH ok w v L → (∀ b, b < w.heap.size → ok b → ok' b) → LH ok' w v L
  rgChg : ∀ {ok q w w' v S r}, RG ok w v S r → Chg q w w' → ¬ q r → (∀ b, b < w.heap.size → ok b → ¬ q b) → RG ok w' v S r
  rgMono : ∀ {ok ok' w v S r}, RG ok w v S r → (∀ b, b < w.heap.size → ok b → ok' b) → RG ok' w v S r
  rgLt : ∀ {ok w v S r}, RG ok w v S r → r < w.heap.size
/-- A table's pointer; a pointer to the package's registers. -/
def lhI (ok : Nat → Prop) (w : World) (v : Value) (L : List (List UInt8)) : Prop := ∃ T : Tbl, v = .pointer (some ⟨T.g, 0, none⟩) ∧ T.ok w ∧ T.L = L ∧ ∀ b, T.uses b → ok b
def rgI (ok : Nat → Prop) (w : World) (v : Value) (S : RS) (r : Nat) : Prop := ∃ p, v = .pointer (some ⟨p, 0, none⟩) ∧ Regs ok w p r S ∧ ok p
set_option maxRecDepth 3000 in
theorem Regs.mono' {ok ok' : Nat → Prop} {w : World} {p r : Nat} {S : RS} (h : Regs ok w p r S) (ho : ∀ b, b < w.heap.size → ok b → ok' b) : Regs ok' w p r S := ⟨h.cell, h.map.mono ho, h.good, h.ne, h.inp⟩
def kI : Kd where
  LH := lhI
  RG := rgI
  lhChg := by
    rintro ok q w w' v L ⟨T, e, h, hl, hu⟩ hc hq
    exact ⟨T, e, h.same fun b hb => hc.block b (h.lt b hb) (hq b (h.lt b hb) (hu b hb)), hl, hu⟩
  lhMono := by
    rintro ok ok' w v L ⟨T, e, h, hl, hu⟩ ho
    exact ⟨T, e, h, hl, fun b hb => ho b (h.lt b hb) (hu b hb)⟩
  rgChg := by
    rintro ok q w w' v S r ⟨p, e, h, hp⟩ hc hr hq
    exact ⟨p, e, h.chg hc hr (hq p h.inp hp) hq, hp⟩
  rgMono := by
    rintro ok ok' w v S r ⟨p, e, h, hp⟩ ho
    exact ⟨p, e, h.mono' ho, ho p h.inp hp⟩
  rgLt := by
    rintro ok w v S r ⟨p, e, h, hp⟩
    exact h.map.lt
/-- A list of lines; a pointer to the document's registers. -/
def lhR (ok : Nat → Prop) (w : World) (v : Value) (L : List (List UInt8)) : Prop := ∃ A cap, v = .slice A L.length cap ∧ LRd ok w A cap L
set_option maxRecDepth 3000 in
theorem RefIs.mono {ok ok' : Nat → Prop} {w : World} {g : Nat} {S : RS} (h : RefIs ok w g S) (ho : ∀ b, b < w.heap.size → ok b → ok' b) : RefIs ok' w g S := by
  refine ⟨h.has, fun c hk => ?_, h.good, h.lt, h.frozen⟩
  obtain ⟨A, cap, h1, h2, h3⟩ := h.val c hk
  exact ⟨A, cap, h1, h2, h3.mono ho⟩
def rgR (ok : Nat → Prop) (w : World) (v : Value) (S : RS) (r : Nat) : Prop := v = .pointer (some ⟨r, 0, none⟩) ∧ RefIs ok w r S
def kR : Kd where
  LH := lhR
  RG := rgR
  lhChg := by
    rintro ok q w w' v L ⟨A, cap, e, h⟩ hc hq
    exact ⟨A, cap, e, h.chg hc hq⟩
  lhMono := by
    rintro ok ok' w v L ⟨A, cap, e, h⟩ ho
    exact ⟨A, cap, e, h.mono ho⟩
  rgChg := by
    rintro ok q w w' v S r ⟨e, h⟩ hc hr hq
    exact ⟨e, h.chg hc hr hq⟩
  rgMono := by
    rintro ok ok' w v S r ⟨e, h⟩ ho
    exact ⟨e, h.mono ho⟩
  rgLt := by
    rintro ok w v S r ⟨e, h⟩
    exact h.lt
section
variable (k : Kd)
/-- A state in a block of its own, that is not written again. -/
def StAt (ok : Nat → Prop) (w : World) (v : Value) (s : StV) : Prop := ∃ g t, v = .pointer (some ⟨g, 0, none⟩) ∧ blk w g = stC t s.cur s.ms ∧ k.LH ok w t s.L ∧ ok g
def StO (ok : Nat → Prop) (w : World) (v : Value) : Option StV → Prop
  | none => v = .pointer none
  | some s => StAt k ok w v s
def WasO (ok K : Nat → Prop) (g r r2 : Nat) (w : World) (v hv : Value) : Option (StV × RS) → Prop
  | none => v = .pointer none ∧ r2 = r
  | some y => StAt k ok w v y.1 ∧ k.RG ok w hv y.2 r2 ∧ K r2 ∧ ¬ r2 = r ∧ ¬ r2 = g
/-- A splice that was done. -/
def Spx.v (s : Spx) : SpV := ⟨s.at_, s.del, s.ins⟩
def SpIn (ok : Nat → Prop) (w : World) (s : Spx) : Prop := LRd ok w s.A s.cap s.ins
/-- A buffer in block g. -/
structure CoreM (base : Nat) (ok K : Nat → Prop) (w : World) (g : Nat) (c : CoV) (tv rv uv wv hv dv : Value) (r r2 : Nat) (D : List Spx) : Prop where
  cells : blk w g = coC tv c.s.cur c.s.ms (.string (tx c.last)) rv (.bool c.dirty) uv wv hv dv
  lines : k.LH ok w tv c.s.L
  regs : k.RG ok w rv c.regs r
  undo : StO k ok w uv c.undo
  was : WasO k ok K g r r2 w wv hv c.was
  did : w.ownsRow base 24 3 dv D.length (D.flatMap Spx.cells)
  didV : D.map Spx.v = c.did
  each : ∀ s ∈ D, SpIn ok w s
  dK : ∀ b, dv.ownBlock = some b → K b ∧ ¬ b = g ∧ ¬ b = r ∧ ¬ b = r2
  Kg : K g
  Kr : K r
  ne : ¬ g = r
  dis : ∀ b, K b → ¬ ok b
  top : ∀ b, w.heap.size ≤ b → ok b
  low : ∀ b, K b → base ≤ b
  under : ∀ b, b < base → ok b
  good : c.good
section
variable {k} {base : Nat} {ok ok' K K' q : Nat → Prop} {w w' : World} {g r r2 : Nat} {c : CoV} {tv rv uv wv hv dv v : Value} {D : List Spx}
set_option maxRecDepth 3000 in
theorem StAt.chg {s : StV} (h : StAt k ok w v s) (hm : s.ms.length = 26) (hc : Chg q w w') (hq : ∀ b, b < w.heap.size → ok b → ¬ q b) : StAt k ok w' v s := by
  obtain ⟨b, t, e, hb, hl, hk⟩ := h
  have hlt : b < w.heap.size := Blk.inHeap hb (by simp [stC_size])
  exact ⟨b, t, e, (hc.blk hlt (hq b hlt hk)).trans hb, k.lhChg hl hc hq, hk⟩
set_option maxRecDepth 3000 in
theorem StAt.mono {s : StV} (h : StAt k ok w v s) (ho : ∀ b, b < w.heap.size → ok b → ok' b) : StAt k ok' w v s := by
  obtain ⟨b, t, e, hb, hl, hk⟩ := h
  have hlt : b < w.heap.size := Blk.inHeap hb (by simp [stC_size])
  exact ⟨b, t, e, hb, k.lhMono hl ho, ho b hlt hk⟩
set_option maxRecDepth 3000 in
theorem CoreM.lt (h : CoreM k base ok K w g c tv rv uv wv hv dv r r2 D) {b : Nat} (hb : K b) : b < w.heap.size := by
  rcases Nat.lt_or_ge b w.heap.size with h1 | h1
  · exact h1
  · exact absurd (h.top b h1) (h.dis b hb)
set_option maxRecDepth 3000 in
theorem CoreM.Kr2 (h : CoreM k base ok K w g c tv rv uv wv hv dv r r2 D) : K r2 := by
  have hw := h.was
  cases hc : c.was with
  | none => rw [hc] at hw; rw [hw.2]; exact h.Kr
  | some y => rw [hc] at hw; exact hw.2.2.1
set_option maxRecDepth 3000 in
theorem CoreM.r2g (h : CoreM k base ok K w g c tv rv uv wv hv dv r r2 D) : ¬ r2 = g := by
  have hw := h.was
  cases hc : c.was with
  | none => rw [hc] at hw; rw [hw.2]; exact fun e => h.ne e.symm
  | some y => rw [hc] at hw; exact hw.2.2.2.2
set_option maxRecDepth 3000 in
/-- Other blocks change: what these are stays. -/
theorem CoreM.keep (h : CoreM k base ok K w g c tv rv uv wv hv dv r r2 D) (hc : Chg q w w') (hq : ∀ b, q b → ¬ ok b ∧ ¬ b = r ∧ ¬ b = r2 ∧ ¬ dv.ownBlock = some b) :
    k.LH ok w' tv c.s.L ∧ k.RG ok w' rv c.regs r ∧ StO k ok w' uv c.undo ∧ WasO k ok K g r r2 w' wv hv c.was ∧ w'.ownsRow base 24 3 dv D.length (D.flatMap Spx.cells) ∧ (∀ s ∈ D, SpIn ok w' s) ∧ ∀ b, w'.heap.size ≤ b → ok b := by
  have ho : ∀ b, b < w.heap.size → ok b → ¬ q b := fun b _ hk e => (hq b e).1 hk
  refine ⟨k.lhChg h.lines hc ho, k.rgChg h.regs hc (fun e => (hq r e).2.1 rfl) ho, ?_, ?_, ?_, fun s hs => (h.each s hs).chg hc ho, fun b hb => h.top b (Nat.le_trans hc.size hb)⟩
  · have hu := h.undo
    have hg := h.good.undo
    cases hcu : c.undo with
    | none => rw [hcu] at hu; exact hu
    | some s => rw [hcu] at hu; exact StAt.chg hu (hg s hcu).many hc ho
  · have hw := h.was
    have hg := h.good.was
    cases hcw : c.was with
    | none => rw [hcw] at hw; exact hw
    | some y =>
      rw [hcw] at hw
      exact ⟨StAt.chg hw.1 (hg y hcw).many hc ho, k.rgChg hw.2.1 hc (fun e => (hq r2 e).2.2.1 rfl) ho, hw.2.2⟩
  · have hd := h.did
    obtain ⟨h1, h2⟩ := hd
    refine ⟨h1, h2.elim Or.inl ?_⟩
    rintro ⟨b, cap, cur, hv2, hb, hh, rr⟩
    exact Or.inr ⟨b, cap, cur, hv2, hb, by rw [hc.block b (Array.getElem?_eq_some_iff.1 hh).1 (fun e => (hq b e).2.2.2 (by rw [hv2]; rfl))]; exact hh, rr⟩
set_option maxRecDepth 3000 in
theorem CoreM.keepG (h : CoreM k base ok K w g c tv rv uv wv hv dv r r2 D) : ∀ b, b = g → ¬ ok b ∧ ¬ b = r ∧ ¬ b = r2 ∧ ¬ dv.ownBlock = some b := by
  rintro b rfl
  exact ⟨h.dis b h.Kg, h.ne, fun e => h.r2g e.symm, fun e => (h.dK b e).2.1 rfl⟩
set_option maxRecDepth 3000 in
/-- What lies elsewhere changes. -/
theorem CoreM.chg (h : CoreM k base ok K w g c tv rv uv wv hv dv r r2 D) (hc : Chg q w w') (hq : ∀ b, q b → ¬ ok b ∧ ¬ K b) : CoreM k base ok K w' g c tv rv uv wv hv dv r r2 D := by
  obtain ⟨a1, a2, a3, a4, a5, a6, a7⟩ := h.keep hc (fun b e => ⟨(hq b e).1, fun e2 => (hq b e).2 (e2 ▸ h.Kr), fun e2 => (hq b e).2 (e2 ▸ h.Kr2), fun e2 => (hq b e).2 (h.dK b e2).1⟩)
  exact ⟨(hc.blk (h.lt h.Kg) (fun e => (hq g e).2 h.Kg)).trans h.cells, a1, a2, a3, a4, a5, h.didV, a6, h.dK, h.Kg, h.Kr, h.ne, h.dis, a7, h.low, h.under, h.good⟩
set_option maxRecDepth 3000 in
theorem CoreM.grows (h : CoreM k base ok K w g c tv rv uv wv hv dv r r2 D) (hg : Grows w w') : CoreM k base ok K w' g c tv rv uv wv hv dv r r2 D := h.chg (q := fun _ => False) (Chg.of_grows hg) (fun _ e => e.elim)
set_option maxRecDepth 3000 in
theorem CoreM.mono (h : CoreM k base ok K w g c tv rv uv wv hv dv r r2 D) (ho : ∀ b, b < w.heap.size → ok b → ok' b) (hd : ∀ b, K b → ¬ ok' b) (ht : ∀ b, w.heap.size ≤ b → ok' b) (hu : ∀ b, b < base → ok' b) : CoreM k base ok' K w g c tv rv uv wv hv dv r r2 D := by
  refine ⟨h.cells, k.lhMono h.lines ho, k.rgMono h.regs ho, ?_, ?_, h.did, h.didV, fun s hs => (h.each s hs).mono ho, h.dK, h.Kg, h.Kr, h.ne, hd, ht, h.low, hu, h.good⟩
  · have hu := h.undo
    cases hcu : c.undo with
    | none => rw [hcu] at hu; exact hu
    | some s => rw [hcu] at hu; exact StAt.mono hu ho
  · have hw := h.was
    cases hcw : c.was with
    | none => rw [hcw] at hw; exact hw
    | some y =>
      rw [hcw] at hw
      exact ⟨StAt.mono hw.1 ho, k.rgMono hw.2.1 ho, hw.2.2⟩
set_option maxRecDepth 3000 in
/-- Of a buffer's own cells some change that say nothing of other blocks. -/
theorem CoreM.self (h : CoreM k base ok K w g c tv rv uv wv hv dv r r2 D) (hc : Chg (fun b => b = g) w w') {c' : CoV} (hb : blk w' g = coC tv c'.s.cur c'.s.ms (.string (tx c'.last)) rv (.bool c'.dirty) uv wv hv dv)
    (h1 : c'.s.L = c.s.L) (h2 : c'.regs = c.regs) (h3 : c'.undo = c.undo) (h4 : c'.was = c.was) (h5 : c'.did = c.did) (hg : c'.good) : CoreM k base ok K w' g c' tv rv uv wv hv dv r r2 D := by
  obtain ⟨a1, a2, a3, a4, a5, a6, a7⟩ := h.keep hc h.keepG
  exact ⟨hb, h1 ▸ a1, h2 ▸ a2, h3 ▸ a3, h4 ▸ a4, a5, h5 ▸ h.didV, a6, h.dK, h.Kg, h.Kr, h.ne, h.dis, a7, h.low, h.under, hg⟩
set_option maxRecDepth 3000 in
/-- The registers change. -/
theorem CoreM.setRegs (h : CoreM k base ok K w g c tv rv uv wv hv dv r r2 D) (hc : Chg (fun b => b = r) w w') {S : RS} (hR : k.RG ok w' rv S r) : CoreM k base ok K w' g { c with regs := S } tv rv uv wv hv dv r r2 D := by
  have hr2 : c.was.isSome = true → ¬ r2 = r := by
    intro hs
    have hw := h.was
    cases hcw : c.was with
    | none => rw [hcw] at hs; cases hs
    | some y => rw [hcw] at hw; exact hw.2.2.2.1
  have ho : ∀ b, b < w.heap.size → ok b → ¬ b = r := fun b _ hk e => h.dis r h.Kr (e ▸ hk)
  refine ⟨(hc.blk (h.lt h.Kg) h.ne).trans h.cells, k.lhChg h.lines hc ho, hR, ?_, ?_, ?_, h.didV, fun s hs => (h.each s hs).chg hc ho, h.dK, h.Kg, h.Kr, h.ne, h.dis, fun b hb => h.top b (Nat.le_trans hc.size hb), h.low, h.under, ⟨h.good.s, h.good.undo, h.good.was, h.good.did⟩⟩
  · have hu := h.undo
    have hg := h.good.undo
    show StO k ok w' uv c.undo
    cases hcu : c.undo with
    | none => rw [hcu] at hu; exact hu
    | some s => rw [hcu] at hu; exact StAt.chg hu (hg s hcu).many hc ho
  · have hw := h.was
    have hg := h.good.was
    show WasO k ok K g r r2 w' wv hv c.was
    cases hcw : c.was with
    | none => rw [hcw] at hw; exact hw
    | some y =>
      rw [hcw] at hw
      exact ⟨StAt.chg hw.1 (hg y hcw).many hc ho, k.rgChg hw.2.1 hc hw.2.2.2.1 ho, hw.2.2⟩
  · obtain ⟨h1, h2⟩ := h.did
    refine ⟨h1, h2.elim Or.inl ?_⟩
    rintro ⟨b, cap, cur, hv2, hb, hh, rr⟩
    exact Or.inr ⟨b, cap, cur, hv2, hb, by rw [hc.block b (Array.getElem?_eq_some_iff.1 hh).1 (fun e => (h.dK b (by rw [hv2]; rfl)).2.2.1 e)]; exact hh, rr⟩
set_option maxRecDepth 3000 in
/-- A change begins. -/
theorem CoreM.begun (h : CoreM k base ok K w g c tv rv uv wv hv dv r r2 D) (hc : Chg (fun b => b = g) w w') {wv' hv' : Value} {r3 : Nat}
    (hb : blk w' g = coC tv c.s.cur c.s.ms (.string (tx c.last)) rv (.bool c.dirty) uv wv' hv' (.slice none 0 0))
    (hs : StAt k (fun b => ok b ∧ ¬ b = r3) w' wv' c.s) (hR : k.RG (fun b => ok b ∧ ¬ b = r3) w' hv' c.regs r3) (h3 : w.heap.size ≤ r3) :
    CoreM k base (fun b => ok b ∧ ¬ b = r3) (fun b => K b ∨ b = r3) w' g { c with was := some (c.s, c.regs), did := [] } tv rv uv wv' hv' (.slice none 0 0) r r3 [] := by
  have hbs : base ≤ r3 := by have := h.low g h.Kg; have := h.lt h.Kg; omega
  have hlt := k.rgLt hR
  have kr : ∀ b, b < w.heap.size → ¬ b = r3 := fun b hb => by omega
  obtain ⟨a1, a2, a3, a4, a5, a6, a7⟩ := h.keep hc h.keepG
  have hw : ∀ b, b < w.heap.size → ok b → (ok b ∧ ¬ b = r3) := fun b hb hk => ⟨hk, kr b hb⟩
  have hq : ∀ b, b < w.heap.size → (ok b ∧ ¬ b = r3) → ¬ b = g := fun b _ hk e => h.dis g h.Kg (e ▸ hk.1)
  refine ⟨hb, k.lhChg (k.lhMono h.lines hw) hc hq, k.rgChg (k.rgMono h.regs hw) hc (fun e => h.ne e.symm) hq, ?_, ⟨hs, hR, .inr rfl, ?_, ?_⟩, World.ownsRow_nil _ _ _ _, rfl, (fun s hs => by cases hs), (fun b e => by cases e), .inl h.Kg, .inl h.Kr, h.ne, ?_, fun b hb => ⟨a7 b hb, by omega⟩, ?_, fun b hb => ⟨h.under b hb, by omega⟩, ⟨h.good.s, h.good.undo, (fun y e => by cases e; exact h.good.s), (fun x e => by cases e)⟩⟩
  · have hu := h.undo
    have hg := h.good.undo
    show StO k _ w' uv c.undo
    cases hcu : c.undo with
    | none => rw [hcu] at hu; exact hu
    | some s => rw [hcu] at hu; exact StAt.chg (StAt.mono hu hw) (hg s hcu).many hc hq
  · have := h.lt h.Kr; omega
  · have := h.lt h.Kg; omega
  · rintro b (hk | rfl) e
    · exact h.dis b hk e.1
    · exact e.2 rfl
  · rintro b (hk | rfl)
    · exact h.low b hk
    · exact hbs
set_option maxRecDepth 3000 in
/-- A change ends. -/
theorem CoreM.ended (h : CoreM k base ok K w g c tv rv uv wv hv dv r r2 D) (hc : Chg (fun b => b = g) w w') {y : StV × RS} (hy : c.was = some y) {hv' : Value} {u : Bool} {uv' : Value}
    (hb : blk w' g = coC tv c.s.cur c.s.ms (.string (tx c.last)) rv (.bool (if u = true then true else c.dirty)) uv' (.pointer none) hv' (.slice none 0 0)) (hu : uv' = if u = true then wv else uv) :
    CoreM k base ok K w' g { c with undo := if u = true then some y.1 else c.undo, dirty := if u = true then true else c.dirty, was := none, did := [] } tv rv uv' (.pointer none) hv' (.slice none 0 0) r r [] := by
  obtain ⟨a1, a2, a3, a4, a5, a6, a7⟩ := h.keep hc h.keepG
  refine ⟨hb, a1, a2, ?_, ⟨rfl, rfl⟩, World.ownsRow_nil _ _ _ _, rfl, (fun s hs => by cases hs), (fun b e => by cases e), h.Kg, h.Kr, h.ne, h.dis, a7, h.low, h.under, ⟨h.good.s, ?_, (fun y e => by cases e), (fun x e => by cases e)⟩⟩
  · subst hu
    cases u with
    | false => exact a3
    | true => rw [hy] at a4; exact a4.1
  · intro s hs
    cases u with
    | false => exact h.good.undo s hs
    | true => cases hs; exact h.good.was y hy
set_option maxRecDepth 3000 in
/-- A change is left. -/
theorem CoreM.left (h : CoreM k base ok K w g c tv rv uv wv hv dv r r2 D) (hc : Chg (fun b => b = g) w w') {y : StV × RS} (hy : c.was = some y) {hv' tv' : Value}
    (hl : k.LH ok w tv' y.1.L) (hb : blk w' g = coC tv' y.1.cur y.1.ms (.string (tx c.last)) hv (.bool c.dirty) uv (.pointer none) hv' (.slice none 0 0)) :
    CoreM k base ok K w' g { c with s := y.1, regs := y.2, was := none, did := [] } tv' hv uv (.pointer none) hv' (.slice none 0 0) r2 r2 [] := by
  obtain ⟨a1, a2, a3, a4, a5, a6, a7⟩ := h.keep hc h.keepG
  rw [hy] at a4
  have ho : ∀ b, b < w.heap.size → ok b → ¬ b = g := fun b _ hk e => h.dis g h.Kg (e ▸ hk)
  exact ⟨hb, k.lhChg hl hc ho, a4.2.1, a3, ⟨rfl, rfl⟩, World.ownsRow_nil _ _ _ _, rfl, (fun s hs => by cases hs), (fun b e => by cases e), h.Kg, a4.2.2.1, (fun e => a4.2.2.2.2 e.symm), h.dis, a7, h.low, h.under, ⟨h.good.was y hy, h.good.undo, (fun y e => by cases e), (fun x e => by cases e)⟩⟩
set_option maxRecDepth 3000 in
/-- Back behind the last change. -/
theorem CoreM.undone (h : CoreM k base ok K w g c tv rv uv wv hv dv r r2 D) (hc : Chg (fun b => b = g) w w') {s : StV} (hs : c.undo = some s) {uv' tv' : Value}
    (hl : k.LH ok w tv' s.L) (hst : StAt k ok w' uv' c.s) (hb : blk w' g = coC tv' s.cur s.ms (.string (tx c.last)) rv (.bool true) uv' wv hv dv) :
    CoreM k base ok K w' g { c with s := s, undo := some c.s, dirty := true } tv' rv uv' wv hv dv r r2 D := by
  obtain ⟨a1, a2, a3, a4, a5, a6, a7⟩ := h.keep hc h.keepG
  have ho : ∀ b, b < w.heap.size → ok b → ¬ b = g := fun b _ hk e => h.dis g h.Kg (e ▸ hk)
  exact ⟨hb, k.lhChg hl hc ho, a2, hst, a4, a5, h.didV, a6, h.dK, h.Kg, h.Kr, h.ne, h.dis, a7, h.low, h.under, ⟨h.good.undo s hs, (fun s e => by cases e; exact h.good.s), h.good.was, h.good.did⟩⟩
set_option maxRecDepth 3000 in
/-- A splice is done: the last steps. -/
theorem CoreM.spliced (h : CoreM k base ok K w g c tv rv uv wv hv dv r r2 D) {x : Spx} {tv' dv' : Value} {L' : List (List UInt8)} {e : Nat}
    (hl : k.LH ok w tv' L') (hx : SpIn ok w x) (hc : Chg (fun b => b = g ∨ dv.ownBlock = some b) w w')
    (hown : w'.ownsRow base 24 3 dv' (D.length + 1) (D.flatMap Spx.cells ++ x.cells)) (he : dv'.ownBlock = some e) (hlie : dv.ownBlock = some e ∨ w.heap.size ≤ e)
    (hb : blk w' g = coC tv' (coSpliced c x.v L').s.cur (coSpliced c x.v L').s.ms (.string (tx c.last)) rv (.bool c.dirty) uv wv hv dv') (hg : (coSpliced c x.v L').good) :
    CoreM k base (fun b => ok b ∧ ¬ b = e) (fun b => K b ∨ b = e) w' g (coSpliced c x.v L') tv' rv uv wv hv dv' r r2 (D ++ [x]) := by
  have hbs : base ≤ w.heap.size := by have := h.low g h.Kg; have := h.lt h.Kg; omega
  have hbe : base ≤ e := by
    rcases hlie with h1 | h1
    · exact h.low e (h.dK e h1).1
    · omega
  have hw : ∀ b, b < w.heap.size → ok b → (ok b ∧ ¬ b = e) := fun b hb hk => ⟨hk, fun e2 => by
    rcases hlie with h1 | h1
    · exact h.dis e (h.dK e h1).1 (e2 ▸ hk)
    · omega⟩
  have hq : ∀ b, b < w.heap.size → (ok b ∧ ¬ b = e) → ¬ (b = g ∨ dv.ownBlock = some b) := by
    rintro b _ hk (rfl | h1)
    · exact h.dis b h.Kg hk.1
    · exact h.dis b (h.dK b h1).1 hk.1
  have hne : ¬ e = g ∧ ¬ e = r ∧ ¬ e = r2 := by
    rcases hlie with h1 | h1
    · exact (h.dK e h1).2
    · have := h.lt h.Kg; have := h.lt h.Kr; have := h.lt h.Kr2
      omega
  have hlt : e < w'.heap.size := (hown.lt e he).2
  refine ⟨hb, k.lhChg (k.lhMono hl hw) hc hq, k.rgChg (k.rgMono h.regs hw) hc ?_ hq, ?_, ?_, by simpa using hown, by simp [h.didV, coSpliced], ?_, ?_, .inl h.Kg, .inl h.Kr, h.ne, ?_, ?_, ?_, ?_, hg⟩
  · rintro (h1 | h1)
    · exact h.ne h1.symm
    · exact (h.dK r h1).2.2.1 rfl
  · have hu := h.undo
    have hg := h.good.undo
    show StO k _ w' uv c.undo
    cases hcu : c.undo with
    | none => rw [hcu] at hu; exact hu
    | some s => rw [hcu] at hu; exact StAt.chg (StAt.mono hu hw) (hg s hcu).many hc hq
  · have hwa := h.was
    have hg := h.good.was
    show WasO k _ _ g r r2 w' wv hv c.was
    cases hcw : c.was with
    | none => rw [hcw] at hwa; exact hwa
    | some y =>
      rw [hcw] at hwa
      refine ⟨StAt.chg (StAt.mono hwa.1 hw) (hg y hcw).many hc hq, k.rgChg (k.rgMono hwa.2.1 hw) hc ?_ hq, .inl hwa.2.2.1, hwa.2.2.2⟩
      rintro (h1 | h1)
      · exact hwa.2.2.2.2 h1
      · exact (h.dK r2 h1).2.2.2 rfl
  · intro s hs
    rcases List.mem_append.1 hs with hs | hs
    · exact ((h.each s hs).mono hw).chg hc hq
    · simp at hs; subst hs; exact (LRd.mono hx hw).chg hc hq
  · intro b hb2
    rw [he] at hb2
    cases hb2
    exact ⟨.inr rfl, hne⟩
  · rintro b (hk | rfl) e2
    · exact h.dis b hk e2.1
    · exact e2.2 rfl
  · intro b hb2
    exact ⟨h.top b (Nat.le_trans hc.size hb2), by omega⟩
  · rintro b (hk | rfl)
    · exact h.low b hk
    · exact hbe
  · intro b hb2
    exact ⟨h.under b hb2, by omega⟩
/-- A buffer in block g, whatever its cells. -/
def CoreAt (k : Kd) (base : Nat) (ok K : Nat → Prop) (w : World) (g : Nat) (c : CoV) : Prop := ∃ tv rv uv wv hv dv r r2 D, CoreM k base ok K w g c tv rv uv wv hv dv r r2 D
/-- .. and what a step may turn. -/
def Moved (k : Kd) (base : Nat) (ok K : Nat → Prop) (g : Nat) (w : World) (c : CoV) (w' : World) : Prop :=
  ∃ ok' K', CoreAt k base ok' K' w' g c ∧ Chg K w w' ∧ (∀ b, b < w.heap.size → ok b → ok' b) ∧ (∀ b, ok' b → ok b) ∧ ∀ b, K' b → K b ∨ w.heap.size ≤ b
set_option maxRecDepth 3000 in
theorem CoreM.at_ (h : CoreM k base ok K w g c tv rv uv wv hv dv r r2 D) : CoreAt k base ok K w g c := ⟨_, _, _, _, _, _, _, _, _, h⟩
set_option maxRecDepth 3000 in
theorem CoreM.moved {c' : CoV} {w' : World} {tv rv uv wv hv dv : Value} (h : CoreM k base ok K w' g c' tv rv uv wv hv dv r r2 D) (hc : Chg K w w') : Moved k base ok K g w c' w' :=
  ⟨ok, K, h.at_, hc, fun _ _ h => h, fun _ h => h, fun _ h => .inl h⟩
set_option maxRecDepth 3000 in
theorem CoreM.moved2 {c' : CoV} {w' : World} {tv rv uv wv hv dv : Value} {e : Nat} (h : CoreM k base (fun b => ok b ∧ ¬ b = e) (fun b => K b ∨ b = e) w' g c' tv rv uv wv hv dv r r2 D) (hc : Chg K w w') (he : (K e ∧ ∀ b, K b → ¬ ok b) ∨ w.heap.size ≤ e) : Moved k base ok K g w c' w' := by
  refine ⟨_, _, h.at_, hc, fun b hb hk => ⟨hk, fun e2 => ?_⟩, fun _ h => h.1, ?_⟩
  · rcases he with h1 | h1
    · exact h1.2 e h1.1 (e2 ▸ hk)
    · omega
  · rintro b (h1 | h1)
    · exact .inl h1
    · rcases he with h2 | h2
      · exact .inl (h1 ▸ h2.1)
      · exact .inr (h1 ▸ h2)
end
end
end Go.Proofs.Ythanghgfakibnaa
