/-
  Several texts of the proof: CoreViews, CoreTwo.
-/
import Derived.Test.YthanghgfakibnaaPk43
import Derived.Test.YthanghgfakibnaaPk44
/-
  Chapter 19: views in memory; splices that come in as an argument; a buffer's lines compared.
-/
namespace Go.Proofs.Ythanghgfakibnaa
open Go.ChangeShapes Go.WideShapes Go.ChangeAt Go.RowKit Go.Joins

section
variable (v : Value) (cur : Int) (ms : List Int) (last : Value)
set_option maxRecDepth 3000 in
theorem viC_list : (viC v cur ms last).toList = v :: .int .i64 cur :: (ms.map (Value.int .i64) ++ [last]) := by simp [viC, stC, MA]
set_option maxRecDepth 3000 in
theorem viC_0 : (viC v cur ms last)[0]? = some v := by rw [← Array.getElem?_toList, viC_list]; rfl
set_option maxRecDepth 3000 in
theorem viC_1 : (viC v cur ms last)[1]? = some (.int .i64 cur) := by rw [← Array.getElem?_toList, viC_list]; rfl
set_option maxRecDepth 3000 in
theorem viC_marks (h : ms.length = 26) : span (viC v cur ms last) 2 26 = MA ms := by
  apply Array.toList_inj.1
  simp only [span, viC_list, MA]
  exact List.take_left' (by simp [h])
end
/-- A view in a variable of its own. -/
structure ViAt (K : Nat → Prop) (w : World) (p : Nat) (A : Option Addr) (cap : Nat) (s : StV) : Prop where
  cells : ∃ last, blk w p = viC (.slice A s.L.length cap) s.cur s.ms (.string last)
  lines : LRd (fun b => ¬ K b) w A cap s.L
  out : ¬ K p
  many : s.ms.length = 26
section
variable {K K' : Nat → Prop} {w w' : World} {p : Nat} {A : Option Addr} {cap : Nat} {s : StV}
set_option maxRecDepth 3000 in
theorem ViAt.inh (h : ViAt K w p A cap s) : InHeap p w := by
  obtain ⟨l, e⟩ := h.cells
  exact Blk.inHeap e (by simp [viC_size])
set_option maxRecDepth 3000 in
theorem ViAt.step (h : ViAt K w p A cap s) (hs : Step K K' w w') : ViAt K' w' p A cap s := by
  have hb := h.inh
  obtain ⟨l, e⟩ := h.cells
  refine ⟨⟨l, (hs.chg.blk hb h.out).trans e⟩, h.lines.step hs, fun k => ?_, h.many⟩
  rcases hs.new p k with h1 | h1
  · exact h.out h1
  · exact absurd hb (Nat.not_lt.2 h1)
set_option maxRecDepth 3000 in
theorem ViAt.grows (h : ViAt K w p A cap s) (hg : Grows w w') : ViAt K w' p A cap s := h.step (Step.of_grows hg)
set_option maxRecDepth 3000 in
theorem ViAt.c0 (h : ViAt K w p A cap s) : w.cell? ⟨p, 0, none⟩ = some (.slice A s.L.length cap) := by
  obtain ⟨l, e⟩ := h.cells
  exact (Blk.cell e (by simp [viC_size]) 0).trans (viC_0 _ _ _ _)
set_option maxRecDepth 3000 in
theorem ViAt.c1 (h : ViAt K w p A cap s) : w.cell? ⟨p, 1, none⟩ = some (.int .i64 s.cur) := by
  obtain ⟨l, e⟩ := h.cells
  exact (Blk.cell e (by simp [viC_size]) 1).trans (viC_1 _ _ _ _)
set_option maxRecDepth 3000 in
/-- The marks' cells, as loadMarks_if asks for them. -/
theorem ViAt.marks (h : ViAt K w p A cap s) : span (blk w p) 2 26 = MA s.ms ∧ 28 ≤ (blk w p).size := by
  obtain ⟨l, e⟩ := h.cells
  rw [e]
  exact ⟨viC_marks _ _ _ _ h.many, by rw [viC_size, h.many]; omega⟩
set_option maxRecDepth 3000 in
theorem viAt_new {W : World} {X : Nat → Prop} {g : Nat} {c : CoV} {t : TypeId} (h : Co W X K g c w) (hl : LRd (fun b => ¬ K b) w A cap s.L) (hm : s.ms.length = 26) (last : ByteArray) : ViAt K (w.alloc (.cells (viC (.slice A s.L.length cap) s.cur s.ms (.string last)) t)) w.heap.size A cap s :=
  ⟨⟨last, blk_alloc_at _ _ _ _ rfl⟩, hl.grows ((Grows.refl _).alloc _), (fun k => by have := h.lt _ k; omega), hm⟩
end
set_option maxRecDepth 3000 in
theorem view_s {W w : World} {X K : Nat → Prop} {g : Nat} {c : CoV} (h : Co W X K g c w) (s : StV) (hs : c.s = s) : Calls Try.prog 10 #[.pointer (some ⟨g, 0, none⟩)] w fun e w' => ∃ A cap, e = .returned (.agg (viC (.slice A s.L.length cap) s.cur s.ms (.string (tx c.last)))) ∧ LRd (fun b => ¬ K b) w' A cap s.L ∧ Grows w w' := by
  subst hs
  exact co_view h
/-! ### splices that come in -/
structure SpsIn (w : World) (A : Option Addr) (S : List Spx) : Prop where
  rd : Rd w 3 A S.length (S.flatMap Spx.cells)
  len : S.length ≤ 9223372036854775807
  each : ∀ s ∈ S, I64 s.at_ ∧ I64 s.del ∧ Came w s.A s.cap s.ins
set_option maxRecDepth 3000 in
theorem SpsIn.grows {w w' : World} {A : Option Addr} {S : List Spx} (h : SpsIn w A S) (hg : Grows w w') : SpsIn w' A S := ⟨h.rd.grows hg, h.len, fun s hs => ⟨(h.each s hs).1, (h.each s hs).2.1, (h.each s hs).2.2.grows hg⟩⟩
set_option maxRecDepth 3000 in
theorem Rd.sp {w : World} {A : Option Addr} {L : List Spx} (h : Rd w 3 A L.length (L.flatMap Spx.cells)) (k : Nat) (hk : k < L.length) : ∃ b o, A = some ⟨b, o, none⟩ ∧ b < w.heap.size ∧ w.cell? ⟨b, o + k * 3, none⟩ = some (.int .i64 L[k].at_) ∧ w.cell? ⟨b, o + k * 3 + 1, none⟩ = some (.int .i64 L[k].del) ∧ w.cell? ⟨b, o + k * 3 + 2, none⟩ = some (.slice L[k].A L[k].ins.length L[k].cap) := by
  obtain ⟨b, o, rfl, hb, hc⟩ := h.2 (by omega)
  obtain ⟨h0, h1, h2⟩ := spx_cells L k hk
  exact ⟨b, o, rfl, hb, hc _ _ h0, by rw [Nat.add_assoc]; exact hc _ _ h1, by rw [Nat.add_assoc]; exact hc _ _ h2⟩
section
variable {H : Type} {enc : TypeId × Value → H} {W : World} {base b0 : Nat} {spare : Nat → Bool} {held : Bool}
set_option maxRecDepth 3000 in
theorem open_sps {v : Value} {d : DataW H} {p : List MemPlace} (hv : Value.okWide Try.prog W .any b0 31 v) (h : DataW.Trod enc Try.prog W base spare held 31 v d p) :
    ∃ (A : Option Addr) (L : List Spx) (cap : Nat), v = .slice A L.length cap ∧ SpsIn W A L := by
  obtain ⟨a, len, cap, rfl⟩ := okWide_slice Try.underlying31 hv
  obtain ⟨fuel, hf⟩ := h
  obtain ⟨A, n, cap, css, hcs, h1, h2, h3, h4, h5⟩ := open_rows Try.underlying31 (show Try.prog.cellsOf 24 = 3 by kernel_rfl) (by omega) hf
  have key : ∀ css : List (List Value), (∀ c ∈ css, c.length = 3 ∧ ∃ m y, DataW.trod enc Try.prog W base spare held m 24 c = some y) →
      ∃ L : List Spx, L.length = css.length ∧ css.flatten = L.flatMap Spx.cells ∧ ∀ s ∈ L, I64 s.at_ ∧ I64 s.del ∧ Came W s.A s.cap s.ins := by
    intro css
    induction css with
    | nil => intro _; exact ⟨[], rfl, rfl, by simp⟩
    | cons c css ih =>
      intro hc
      obtain ⟨L, e1, e2, e3⟩ := ih (fun x hx => hc x (by simp [hx]))
      obtain ⟨_, m, y, hy⟩ := hc c (by simp)
      obtain ⟨x, d, A, cap, l, rfl, hx, hd, hl⟩ := open_spx hy
      refine ⟨⟨x, d, A, cap, l⟩ :: L, by simp [e1], by simp [e2, Spx.cells], fun z hz => ?_⟩
      rcases List.mem_cons.1 hz with rfl | hz
      · exact ⟨hx, hd, hl⟩
      · exact e3 z hz
  obtain ⟨L, e1, e2, e3⟩ := key css h4
  have hn : n = L.length := by omega
  subst hn
  simp [Value.cells] at hcs
  obtain ⟨rfl, rfl, rfl⟩ := hcs
  unfold maxLen at h2
  exact ⟨a, L, cap, rfl, by rw [← e2]; exact h5, by omega, e3⟩
end
set_option maxRecDepth 3000 in
/-- All, at splices that were told. -/
theorem allS_any {K okD : Nat → Prop} (A A2 : Option Addr) (n cap n2 cap2 : Nat) (d d' : List (List UInt8)) (D : List Spx) (w : World) (hn : n = d.length) (hn2 : n2 = D.length) (hd : LRd K w A cap d) (h0 : lcheckV d = 0) (hD : Rd w 3 A2 D.length (D.flatMap Spx.cells)) (he : ∀ s ∈ D, LRd okD w s.A s.cap s.ins) (hg : ∀ s ∈ D, s.v.good) (hl : D.length ≤ 1000000) (hf : foldS d (D.map Spx.v) = (d', 0)) :
    Calls Try.prog 28 #[.slice A n cap, .slice A2 n2 cap2] w fun e w' => ∃ B c2, e = .returned (.tuple #[.slice B d'.length c2, .int .i64 0]) ∧ Rd w' 1 B d'.length (lv d') ∧ Grows w w' := by
  subst hn hn2
  have h2 := lcheckV_good.1 h0
  refine (spAll_any A A2 cap cap2 d D w hd.rd hd.nil (by omega) (fun t ht => by have := (h2.2 t ht).2; omega) hD hl (fun s hs => ?_)).mono ?_
  · have h3 := hg s hs
    have h4 := lcheckV_good.1 h3.ins
    have h5 : s.ins.length ≤ 2000 := h4.1
    exact ⟨h3.at_, h3.del, (he s hs).rd, (he s hs).nil, by omega, fun t ht => by have := (h4.2 t ht).2; omega⟩
  · rintro e w' ⟨v, rfl, ho, hg⟩
    rw [spAllV_map h0, hf] at ho ⊢
    obtain ⟨B, c2, rfl, -, -, hr, -, -⟩ := own_row ho
    exact ⟨B, c2, rfl, hr, hg⟩
set_option maxRecDepth 3000 in
theorem told_good {D : List Spx} {n : Nat} {e : List (List UInt8)} (h : D.map Spx.v = [⟨0, n, e⟩]) (he : lcheckV e = 0) (hn : n ≤ 1000000) : ∀ s ∈ D, s.v.good := by
  obtain ⟨d, rfl, hd⟩ := map_one h
  intro s hs
  simp at hs
  subst hs
  rw [hd]
  exact ⟨i64_0, i64_nat hn, he⟩
end Go.Proofs.Ythanghgfakibnaa

/-
  Chapter 19: two buffers beside each other; a buffer's registers.
-/
namespace Go.Proofs.Ythanghgfakibnaa
open Go.RowKit

section
variable {k : Kd} {base : Nat} {ok ok' K q : Nat → Prop} {w w' : World} {g r r2 : Nat} {c : CoV} {tv rv uv wv hv dv v : Value} {D : List Spx}
set_option maxRecDepth 3000 in
/-- Other blocks change, and what is leant on is told anew. -/
theorem CoreM.move (h : CoreM k base ok K w g c tv rv uv wv hv dv r r2 D) (hc : Chg q w w') (hq : ∀ b, q b → ¬ ok b ∧ ¬ K b) (ho : ∀ b, b < w.heap.size → ok b → ok' b) (hs : ∀ b, ok' b → ok b) (hd : ∀ b, K b → ¬ ok' b) (ht : ∀ b, w'.heap.size ≤ b → ok' b) (hu : ∀ b, b < base → ok' b) : CoreM k base ok' K w' g c tv rv uv wv hv dv r r2 D := by
  have hqo : ∀ b, b < w.heap.size → ok' b → ¬ q b := fun b _ h1 h2 => (hq b h2).1 (hs b h1)
  have hK : ∀ {b}, K b → ¬ q b := fun {b} h1 h2 => (hq b h2).2 h1
  refine ⟨(hc.blk (h.lt h.Kg) (hK h.Kg)).trans h.cells, k.lhChg (k.lhMono h.lines ho) hc hqo, k.rgChg (k.rgMono h.regs ho) hc (hK h.Kr) hqo, ?_, ?_, ?_, h.didV, fun s hs => ((h.each s hs).mono ho).chg hc hqo, h.dK, h.Kg, h.Kr, h.ne, hd, ht, h.low, hu, h.good⟩
  · have hu := h.undo
    have hg := h.good.undo
    cases hcu : c.undo with
    | none => rw [hcu] at hu; exact hu
    | some s => rw [hcu] at hu; exact StAt.chg (StAt.mono hu ho) (hg s hcu).many hc hqo
  · have hw := h.was
    have hg := h.good.was
    cases hcw : c.was with
    | none => rw [hcw] at hw; exact hw
    | some y =>
      rw [hcw] at hw
      exact ⟨StAt.chg (StAt.mono hw.1 ho) (hg y hcw).many hc hqo, k.rgChg (k.rgMono hw.2.1 ho) hc (hK hw.2.2.1) hqo, hw.2.2⟩
  · obtain ⟨h1, h2⟩ := h.did
    refine ⟨h1, h2.elim Or.inl ?_⟩
    rintro ⟨b, cap, cur, hv2, hb, hh, rr⟩
    exact Or.inr ⟨b, cap, cur, hv2, hb, by rw [hc.block b (Array.getElem?_eq_some_iff.1 hh).1 (hK (h.dK b (by rw [hv2]; rfl)).1)]; exact hh, rr⟩
end
section
variable {W w w' : World} {X Y K K' K2 q : Nat → Prop} {g g2 : Nat} {c c' c2 : CoV}
set_option maxRecDepth 3000 in
/-- Blocks of others change, and new ones are others'. -/
theorem Co.beside (h : Co W X K g c w) (hc : Chg X w w') (hY : ∀ b, Y b → (X b ∨ w.heap.size ≤ b) ∧ b < w'.heap.size) (hG : Grows W w') : Co W Y K g c w' := by
  obtain ⟨ok, tv, rv, uv, wv, hv, dv, r, r2, D, hM, hX⟩ := h.at_
  have hKY : ∀ b, K b → ¬ Y b := fun b hk hy => by
    rcases (hY b hy).1 with h1 | h1
    · exact (h.out b h1).1 hk
    · have := hM.lt hk; omega
  refine ⟨⟨fun b => ok b ∧ ¬ Y b, tv, rv, uv, wv, hv, dv, r, r2, D, hM.move (q := X) hc (fun b hb => ⟨hX b hb, (h.out b hb).1⟩) (fun b hb h1 => ⟨h1, fun hy => ?_⟩) (fun b h1 => h1.1) (fun b hk h1 => hM.dis b hk h1.1) (fun b hb => ⟨hM.top b (Nat.le_trans hc.size hb), fun hy => by have := (hY b hy).2; omega⟩) (fun b hb => absurd hb (Nat.not_lt_zero _)), fun b hy h1 => h1.2 hy⟩, hG, h.low, fun b hy => ⟨fun hk => hKY b hk hy, (hY b hy).2⟩⟩
  · rcases (hY b hy).1 with h2 | h2
    · exact hX b h2 h1
    · omega
/-- Two buffers, neither of which leans on the other. -/
structure Two (W : World) (K K2 : Nat → Prop) (g g2 : Nat) (c c2 : CoV) (w : World) : Prop where
  a : Co W K2 K g c w
  b : Co W K K2 g2 c2 w
set_option maxRecDepth 3000 in
theorem Two.stepA (h : Two W K K2 g g2 c c2 w) (ha : Co W K2 K' g c' w') (hs : Step K K' w w') : Two W K' K2 g g2 c' c2 w' :=
  ⟨ha, h.b.beside hs.chg (fun b hb => ⟨hs.new b hb, ha.lt b hb⟩) ha.grown⟩
set_option maxRecDepth 3000 in
theorem Two.stepB (h : Two W K K2 g g2 c c2 w) (hb : Co W K K' g2 c' w') (hs : Step K2 K' w w') : Two W K K' g g2 c c' w' :=
  ⟨h.a.beside hs.chg (fun b hb2 => ⟨hs.new b hb2, hb.lt b hb2⟩) hb.grown, hb⟩
set_option maxRecDepth 3000 in
theorem Two.grows (h : Two W K K2 g g2 c c2 w) (hg : Grows w w') : Two W K K2 g g2 c c2 w' := ⟨h.a.grows hg, h.b.grows hg⟩
set_option maxRecDepth 3000 in
theorem Two.start (h : Co W (fun _ => False) K g c w) (hg : Grows w w') (h2 : Co W K K2 g2 c2 w') (hK : ∀ b, K2 b → w.heap.size ≤ b) : Two W K K2 g g2 c c2 w' :=
  ⟨h.beside (Chg.of_grows hg) (fun b hb => ⟨.inr (hK b hb), h2.lt b hb⟩) h2.grown, h2⟩
/-! ### the registers -/
/-- Where a buffer's registers lie. -/
def Rat (X K : Nat → Prop) (g : Nat) (c : CoV) (w : World) (p : Nat) : Prop := ∃ ok tv uv wv hv dv r r2 D, CoreM kI 0 ok K w g c tv (.pointer (some ⟨p, 0, none⟩)) uv wv hv dv r r2 D ∧ Regs ok w p r c.regs ∧ ok p ∧ ∀ b, X b → ¬ ok b
set_option maxRecDepth 3000 in
theorem Co.rat (h : Co W X K g c w) : ∃ p, Rat X K g c w p := by
  obtain ⟨ok, tv, rv, uv, wv, hv, dv, r, r2, D, hM, hX⟩ := h.at_
  obtain ⟨p, rfl, hR, hp⟩ := hM.regs
  exact ⟨p, ok, tv, uv, wv, hv, dv, r, r2, D, hM, hR, hp, hX⟩
set_option maxRecDepth 3000 in
theorem Rat.grows {p : Nat} (h : Rat X K g c w p) (hg : Grows w w') : Rat X K g c w' p := by
  obtain ⟨ok, tv, uv, wv, hv, dv, r, r2, D, hM, hR, hp, hX⟩ := h
  exact ⟨ok, tv, uv, wv, hv, dv, r, r2, D, hM.grows hg, hR.grows hg, hp, hX⟩
set_option maxRecDepth 3000 in
theorem rat_regs {p : Nat} (h : Rat X K g c w p) : Calls Try.prog 20 #[.pointer (some ⟨g, 0, none⟩)] w fun e w' => e = .returned (.pointer (some ⟨p, 0, none⟩)) ∧ w = w' := by
  obtain ⟨ok, tv, uv, wv, hv, dv, r, r2, D, hM, hR, hp, hX⟩ := h
  obtain ⟨T, rfl, -⟩ := hM.lines
  obtain ⟨q0, -, -, q29, -⟩ := co_cells hM.cells hM.good.s.many
  exact coRegs g T.g p w q0 q29
set_option maxRecDepth 3000 in
theorem rat_set {okx : Nat → Prop} {p : Nat} (hC : Co W X K g c w) (h : Rat X K g c w p) (l : Int) (k : Nat) (hl : l = k) (A : Option Addr) (n cap : Nat) (b : Bool) (x : Rg) (hn : n = x.d.length) (hb : b = x.whole) (hx : LRd okx w A cap x.d) (hf : x.fits) :
    Calls Try.prog 30 #[.pointer (some ⟨p, 0, none⟩), .int .u8 l, .agg #[.slice A n cap, .bool b]] w fun e w' => e = .returned (.int .i64 (coSet c k x).2) ∧ Co W X K g (coSet c k x).1 w' ∧ Step K K w w' := by
  subst hl
  obtain ⟨ok, tv, uv, wv, hv, dv, r, r2, D, hM, hR, hp, hX⟩ := h
  refine (set_lit p r c.regs k k rfl A n cap b x hn hb w hR hx hf hM.top (hM.dis r hM.Kr)).mono ?_
  rintro e w' ⟨rfl, hc, hR'⟩
  have := hM.setRegs hc (S := (rset c.regs k x).1) ⟨p, rfl, hR', hp⟩
  exact ⟨rfl, hC.same hX this.at_ (hc.mono fun b _ e => e ▸ hM.Kr)⟩
set_option maxRecDepth 3000 in
theorem rat_get {p : Nat} (hC : Co W X K g c w) (h : Rat X K g c w p) (l : Int) (k : Nat) (hl : l = k) (y : Rg) (n : Int) (hy : rget c.regs k = (y, n)) (m : Nat) (hm : m = y.d.length) (b : Bool) (hb : b = y.whole) :
    Calls Try.prog 31 #[.pointer (some ⟨p, 0, none⟩), .int .u8 l] w fun e w' => ∃ A cap, e = .returned (.tuple #[.agg #[.slice A m cap, .bool b], .int .i64 n]) ∧ LRd (fun b => ¬ K b) w' A cap y.d ∧ Grows w w' := by
  subst hm hb hl
  obtain ⟨ok, tv, uv, wv, hv, dv, r, r2, D, hM, hR, hp, hX⟩ := h
  refine (get_lit p r c.regs k k rfl w hR y n hy).mono ?_
  rintro e w' ⟨A, cap, rfl, hA, hg⟩
  exact ⟨A, cap, rfl, NewL2.keep hC hA, hg⟩
end
set_option maxRecDepth 3000 in
theorem lrd_one {ok : Nat → Prop} {w : World} {g : Nat} {s : List UInt8} (h : w.cell? ⟨g, 0, none⟩ = some (.string (tx s))) (ho : ok g) : LRd ok w (some ⟨g, 0, none⟩) 1 [s] := by
  refine ⟨⟨rfl, fun _ => ⟨g, 0, rfl, World.block_lt_of_cell? w _ h, fun j u hj => ?_⟩⟩, (fun e => by cases e), Nat.le_refl _, by simp, fun _ a e => by cases e; exact ho⟩
  match j, hj with
  | 0, hj => cases hj; exact h
/-! ### what an abort leaves -/
/-- What an act of a change that is left leaves. -/
def chAct (c : CoV) (s : AcC) : CoV :=
  if s.kind % 12 = 1 ∨ s.kind % 12 = 2 ∨ s.kind % 12 = 3 then (coSplice c s.sp).1 else if s.kind % 12 = 7 then (coGo c s.line).1 else if s.kind % 12 = 8 then (coMark c s.letter s.line).1 else
  if s.kind % 12 = 9 then (coSet c s.letter ⟨[s.text], false⟩).1 else c
def chActs (c : CoV) (L : List AcC) : CoV := L.foldl chAct c
set_option maxRecDepth 3000 in
theorem chActs_take (c : CoV) (L : List AcC) (k : Nat) (h : k < L.length) : chActs c (L.take (k + 1)) = chAct (chActs c (L.take k)) L[k] := by
  unfold chActs
  rw [List.take_add_one, List.getElem?_eq_getElem h, List.foldl_append]
  rfl
/-- What a change that has begun keeps of the buffer ahead of it. -/
structure InAb (b c : CoV) : Prop where
  was : c.was = some (b.s, b.regs)
  undo : c.undo = b.undo
  dirty : c.dirty = b.dirty
set_option maxRecDepth 3000 in
theorem InAb.start {b : CoV} (h : b.was = none) : InAb b (coBegin b).1 := by rw [coBegin_none h]; exact ⟨rfl, rfl, rfl⟩
set_option maxRecDepth 3000 in
theorem InAb.splice {b c : CoV} (h : InAb b c) (x : SpV) : InAb b (coSplice c x).1 := by
  unfold coSplice
  split
  · exact h
  · split
    · exact h
    · exact ⟨h.was, h.undo, h.dirty⟩
set_option maxRecDepth 3000 in
theorem InAb.act {b c : CoV} (h : InAb b c) (s : AcC) : InAb b (chAct c s) := by
  unfold chAct
  split
  · exact h.splice _
  · split
    · unfold coGo
      split
      · exact h
      · exact ⟨h.was, h.undo, h.dirty⟩
    · split
      · unfold coMark
        split
        · exact ⟨h.was, h.undo, h.dirty⟩
        · exact h
      · split
        · exact ⟨h.was, h.undo, h.dirty⟩
        · exact h
set_option maxRecDepth 3000 in
theorem InAb.acts {b c : CoV} (h : InAb b c) (L : List AcC) : InAb b (chActs c L) := by
  unfold chActs
  induction L generalizing c with
  | nil => exact h
  | cons s L ih => exact ih (h.act s)
set_option maxRecDepth 3000 in
theorem chAct_did (c : CoV) (s : AcC) : (chAct c s).did.length ≤ c.did.length + 1 := by
  unfold chAct
  split
  · exact coSplice_did c _
  · split
    · unfold coGo; split <;> simp
    · split
      · unfold coMark; split <;> simp
      · split
        · simp [coSet]
        · simp
set_option maxRecDepth 3000 in
theorem chActs_did (c : CoV) (L : List AcC) : (chActs c L).did.length ≤ c.did.length + L.length := by
  unfold chActs
  induction L generalizing c with
  | nil => simp
  | cons s L ih =>
    have := ih (chAct c s)
    have := chAct_did c s
    simp only [List.foldl_cons, List.length_cons]
    omega
/-- Two buffers that look the same. -/
structure Alike (c o : CoV) : Prop where
  s : c.s = o.s
  regs : c.regs = o.regs
  dirty : c.dirty = o.dirty
  undo : c.undo = o.undo
  wasC : c.was = none
  wasO : o.was = none
set_option maxRecDepth 3000 in
theorem InAb.abort {b c : CoV} (h : InAb b c) (hb : b.was = none) : Alike (coAbort c) b := by
  unfold coAbort
  rw [h.was]
  exact ⟨rfl, rfl, h.dirty, h.undo, rfl, hb⟩
set_option maxRecDepth 3000 in
theorem Alike.back {c o : CoV} (h : Alike c o) : Alike (coUndo c).1 (coUndo o).1 ∧ (coUndo c).2 = (coUndo o).2 := by
  unfold coUndo
  rw [h.wasC, h.wasO, h.undo]
  split
  · exact ⟨h, rfl⟩
  · split
    · exact ⟨h, rfl⟩
    · exact ⟨⟨rfl, h.regs, rfl, by simp [h.s], by first | exact h.wasC | rfl, by first | exact h.wasO | rfl⟩, rfl⟩
end Go.Proofs.Ythanghgfakibnaa
