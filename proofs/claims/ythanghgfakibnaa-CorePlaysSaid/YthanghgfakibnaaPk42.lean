/-
  Core: the document's Splice: the walk.
-/
import Derived.Test.YthanghgfakibnaaPk41
import Derived.Test.YthanghgfakibnaaPk31
import Derived.Test.YthanghgfakibnaaPk12
namespace Go.Proofs.Ythanghgfakibnaa
open Go.RowKit

set_option maxRecDepth 3000 in
theorem keep_world {F G : World → Prop} (w : World) (hG : G w) (h : ∀ w, G w → F w) : F w := h w hG
attribute [local go_sem ↓] ldMarks_eq stMarks_eq
attribute [local go_sem] loadMarks storeMarks loadMarks_if storeMarks_if coC_size coC_marks span_MA coC_overM length_ms26
section
variable {base : Nat} {ok K : Nat → Prop} {w : World} {g r r2 : Nat} {c : CoV} {tv rv uv wv hv dv : Value} {D : List Spx}
set_option maxRecDepth 3000 in
theorem ref_spl_fin {e cap5 cB : Nat} {B : Option Addr} {x : Spx} {L' : List (List UInt8)} {dA : Option Addr} {dC : Nat} {w2 W6 : World} {cu : Int} (h0 : CoreM kR base ok K w g c tv rv uv wv hv (.slice dA D.length dC) r r2 D) (h : CoreM kR base ok K w2 g c tv rv uv wv hv (.slice dA D.length dC) r r2 D)
    (hgw : Grows w w2) (hl : LRd (fun b => w.heap.size + 1 ≤ b) w2 B cB L') (hx : LRd ok w2 x.A x.cap x.ins) (hC6 : Chg (fun b => b = g ∨ (Value.slice dA D.length dC).ownBlock = some b) w2 W6)
    (hown : W6.ownsRow base 24 3 (.slice (some ⟨e, 0, none⟩) (D.length + 1) cap5) (D.length + 1) (D.flatMap Spx.cells ++ x.cells)) (hlie : (Value.slice dA D.length dC).ownBlock = some e ∨ w2.heap.size ≤ e)
    (hb : blk W6 g = coC (.slice B L'.length cB) cu (shiftV c.s.ms x.at_ x.del x.ins.length) (.string (tx c.last)) rv (.bool c.dirty) uv wv hv (.slice dA D.length dC))
    (hcu : cu = curV c.s.cur x.v L'.length) (hsl : (shiftV c.s.ms x.at_ x.del x.ins.length).length = 26) (hg : (coSpliced c x.v L').good) : Moved kR base ok K g w (coSpliced c x.v L') (W6.setCell ⟨g, 34, none⟩ (.slice (some ⟨e, 0, none⟩) (D.length + 1) cap5)) := by
  subst hcu
  have hne : ¬ e = g := by
    rcases hlie with h1 | h1
    · exact (h.dK e h1).2.1
    · have := h.lt h.Kg; omega
  have hC7 : Chg (fun b => b = g) W6 (W6.setCell ⟨g, 34, none⟩ (.slice (some ⟨e, 0, none⟩) (D.length + 1) cap5)) := chg_one rfl
  have hC9 := hC6.trans (hC7.mono fun b _ e => (.inl e : b = g ∨ (Value.slice dA D.length dC).ownBlock = some b))
  have hb9 := (co_put hb (by simp [coC_size]) 34 (.slice (some ⟨e, 0, none⟩) (D.length + 1) cap5)).trans (coC_set34 _ _ _ _ _ _ _ _ _ _ _ hsl)
  have hK9 : Chg K w (W6.setCell ⟨g, 34, none⟩ (.slice (some ⟨e, 0, none⟩) (D.length + 1) cap5)) := (Chg.of_grows hgw).trans (hC9.mono fun b _ e => by
    rcases e with rfl | e
    · exact h.Kg
    · exact (h.dK b e).1)
  have hs := hgw.below.size
  refine (h.spliced (x := x) (L' := L') ⟨B, cB, rfl, hl.mono fun b _ hb => h0.top b (by omega)⟩ hx hC9 (own_chg5 hown hC7 hne) rfl hlie hb9 hg).moved2 hK9 ?_
  rcases hlie with h1 | h1
  · exact .inl ⟨(h.dK e h1).1, h.dis⟩
  · exact .inr (Nat.le_trans hs h1)
set_option maxRecDepth 3000 in
set_option maxHeartbeats 4000000 in
theorem refSplice19_any (h : CoreM kR base ok K w g c tv rv uv wv hv dv r r2 D) (at_ del : Int) (I : Option Addr) (ci : Nat) (ins : List (List UInt8)) (ha : I64 at_) (hd : I64 del) (hI : LRd ok w I ci ins) (hl : ∀ s ∈ ins, s.length ≤ 9223372036854775807) (hn : ins.length ≤ 1000000) (hdn : c.did.length ≤ 1000000) :
    Calls Try.prog 57 #[.pointer (some ⟨g, 0, none⟩), .agg #[.int .i64 at_, .int .i64 del, .slice I ins.length ci]] w fun e w' => e = .returned (.int .i64 (coSplice c ⟨at_, del, ins⟩).2) ∧ Moved kR base ok K g w (coSplice c ⟨at_, del, ins⟩).1 w' := by
  have hb := h.cells
  obtain ⟨A, cap, rfl, hL⟩ := h.lines
  have hm := h.good.s.many
  have hsn := h.good.s.len
  obtain ⟨i0, hi, hz0, hz1, hz2⟩ := info_parts infoSp
  obtain ⟨dA, dC, rfl⟩ := own_form h.did
  have hDn : D.length ≤ 1000000 := by rw [← h.didV] at hdn; simpa using hdn
  obtain ⟨q0, q1, -, -, -, -, q32, -, q34⟩ := co_cells hb hm
  have ig := co_in hb
  have HM := Lib.hid h
  cases hw : c.was with
  | none =>
    have hwa := h.was
    rw [hw] at hwa
    obtain ⟨rfl, -⟩ := hwa
    have hV : Hid (coSplice c ⟨at_, del, ins⟩ = (c, 2)) := Lib.hid (by unfold coSplice; rw [hw]; rfl)
    clear h hL hw hm hb
    go_enter Try.func57, Try.ntmps57
    go_wp2_with fail
    go_ret
    exact ⟨by rw [hV.out]; rfl, by rw [hV.out]; exact (HM.out.grows ((Grows.refl _).alloc _)).moved (Chg.of_grows ((Grows.refl _).alloc _))⟩
  | some y =>
    have hwa := h.was
    rw [hw] at hwa
    obtain ⟨⟨gs, t, rfl, -⟩, -⟩ := hwa
    have hW := Lib.hid hw
    have HI := Lib.hid hI
    have HL := Lib.hid hl
    have HLl := Lib.hid hL
    have HA := Lib.hid ha
    have HD := Lib.hid hd
    clear h hL hw hl ha hd hI
    go_enter Try.func57, Try.ntmps57
    go_wp2_with fail
    go_region_held3 (fun w' => w'.cell? ⟨g, 0, none⟩ = some (.slice A c.s.L.length cap) ∧ w'.cell? ⟨w.heap.size, 0, none⟩ = some (.int .i64 at_) ∧ w'.cell? ⟨w.heap.size, 1, none⟩ = some (.int .i64 del) ∧ w'.cell? ⟨w.heap.size, 2, none⟩ = some (.slice I ins.length ci))
      (first | (simp [go_sem, ig, q0]; done))
      (first | (go_at_call 78; (refine Calls.mono (refSplice_any A I cap ci c.s.L ins at_ del _ (HLl.out.rd.grows ?_) HLl.out.nil HLl.out.le HLl.out.cap63 (HI.out.rd.grows ?_) HI.out.nil (by omega) hn HL.out HA.out HD.out) ?_); (repeat' first | exact Grows.refl _ | refine Grows.more ?_ _ | refine Grows.alloc ?_ _ | refine Grows.drew ?_); rintro e w2 ⟨v, rfl, hown, m, rfl⟩; have hown := Lib.hid hown))
    have hok := spliceV_ok (d := c.s.L) (a := at_) (e := del) (ins := ins)
    have hVs : Hid (coSplice c ⟨at_, del, ins⟩ = if (spliceV c.s.L at_ del ins).2 ≠ 0 then (c, (spliceV c.s.L at_ del ins).2) else (coSpliced c ⟨at_, del, ins⟩ (spliceV c.s.L at_ del ins).1, 0)) := Lib.hid (by unfold coSplice; rw [hW.out]; rfl)
    have hGd : Hid ((coSplice c ⟨at_, del, ins⟩).1.good) := Lib.hid (HM.out.good.splice ⟨HA.out, HD.out⟩)
    generalize spliceV c.s.L at_ del ins = y at *
    obtain ⟨L', er⟩ := y
    by_cases h0 : er = 0
    · subst h0
      obtain ⟨b1, b2, b3, b4, b5, b6, b7, -⟩ := hok rfl
      have b7 : L'.length ≤ 2000 := b7
      have hV : Hid (coSplice c ⟨at_, del, ins⟩ = (coSpliced c ⟨at_, del, ins⟩ L', 0)) := Lib.hid (by rw [hVs.out]; rfl)
      have hown := hown.out
      obtain ⟨B, cB, rfl, hLB⟩ := LRd.of_own (ok := fun b => w.heap.size + 1 ≤ b) (d := L') hown (fun b hb => by simpa using hb)
      obtain ⟨w2, hw2⟩ : ∃ W, W = more (w.alloc (.cells #[.int .i64 at_, .int .i64 del, .slice I ins.length ci] 24)) m := ⟨_, rfl⟩
      have hg2 : Grows (w.alloc (.cells #[.int .i64 at_, .int .i64 del, .slice I ins.length ci] 24)) w2 := by rw [hw2]; exact Grows.of _ _
      have hgw : Grows w w2 := ((Grows.refl w).alloc _).trans hg2
      have H2 := Lib.hid (HM.out.grows hgw)
      have HI2 := Lib.hid (HI.out.grows hgw)
      have GW := Lib.hid hgw
      have x0 : w2.cell? ⟨w.heap.size, 0, none⟩ = some (.int .i64 at_) := by rw [hw2]; simp [go_sem]
      have x1 : w2.cell? ⟨w.heap.size, 1, none⟩ = some (.int .i64 del) := by rw [hw2]; simp [go_sem]
      have x2 : w2.cell? ⟨w.heap.size, 2, none⟩ = some (.slice I ins.length ci) := by rw [hw2]; simp [go_sem]
      have ix : InHeap w.heap.size w2 := World.block_lt_of_cell? _ _ x0
      have hltg : g < w.heap.size := ig
      have LB : Hid (LRd (fun b => w.heap.size + 1 ≤ b) w2 B cB L') := Lib.hid (by rw [hw2]; exact hLB)
      have hb2 := H2.out.cells
      obtain ⟨p0, p1, -, -, -, -, -, -, p34⟩ := co_cells hb2 hm
      have ff2 := co_free hb2
      have ig2 := co_in hb2
      rw [← hw2]
      have HB := Lib.hid (And.intro b1 b3)
      clear hw2 hown hLB hg2 hgw hok hVs q0 q1 q32 q34 ig hb b1 b2 b3 b4 b5 b6
      go_wp2_with fail
      obtain ⟨W3, hW3⟩ : ∃ W, W = w2.setCell ⟨g, 0, none⟩ (.slice B L'.length cB) := ⟨_, rfl⟩
      have hC3 : Chg (fun b => b = g) w2 W3 := by rw [hW3]; exact chg_one rfl
      have hb3 : blk W3 g = coC (.slice B L'.length cB) c.s.cur c.s.ms (.string (tx c.last)) rv (.bool c.dirty) uv (.pointer (some ⟨gs, 0, none⟩)) hv (.slice dA D.length dC) := by
        rw [hW3]
        exact (co_put hb2 (by simp [coC_size]) 0 _).trans (coC_set0 _ _ _ _ _ _ _ _ _ _ _ hm)
      have hne : ¬ w.heap.size = g := by omega
      have z0 := (hC3.cell (a := ⟨w.heap.size, 0, none⟩) ix hne).trans x0
      have z1 := (hC3.cell (a := ⟨w.heap.size, 1, none⟩) ix hne).trans x1
      have z2 := (hC3.cell (a := ⟨w.heap.size, 2, none⟩) ix hne).trans x2
      have ix3 : InHeap w.heap.size W3 := Nat.lt_of_lt_of_le ix hC3.size
      obtain ⟨s0, s1, -, -, -, -, -, -, s34⟩ := co_cells hb3 hm
      have ff3 := co_free hb3
      have ig3 := co_in hb3
      have HC3 := Lib.hid hC3
      have hsl : (shiftV c.s.ms at_ del ins.length).length = 26 := by simp [hm]
      have hbs : Hid (base ≤ w2.heap.size) := Lib.hid (by have := H2.out.low g H2.out.Kg; have := H2.out.lt H2.out.Kg; omega)
      have hdg : Hid (¬ (Value.slice dA D.length dC).ownBlock = some g) := Lib.hid (fun e => (H2.out.dK g e).2.1 rfl)
      rw [← hW3]
      clear hW3 hC3 p0 p1 p34 ff2 ig2 hb2
      go_region_law (first | (go_simp; (with_reducible refine Calls.mono (refShift_any c.s.ms at_ del I ins.length ci _ hm HM.out.good.s.ms HA.out HD.out (by omega)) ?_); rintro e w5 ⟨rfl, m5, rfl⟩; dsimp only))
      all_goals
        refine keep_world (G := fun W => blk W g = coC (.slice B L'.length cB) c.s.cur (shiftV c.s.ms at_ del ins.length) (.string (tx c.last)) rv (.bool c.dirty) uv (.pointer (some ⟨gs, 0, none⟩)) hv (.slice dA D.length dC) ∧ Chg (fun b => b = g) w2 W) _ ⟨blk_grows (Blk.get _ hb3 (by simp [coC_size])) (by simp [coC_size]) (by repeat' first | exact Grows.refl _ | refine Grows.more ?_ _ | refine Grows.alloc ?_ _ | refine Grows.drewN ?_ _ | refine Grows.drew ?_), (HC3.out.trans (chg_setBlk rfl)).trans (Chg.of_grows (by repeat' first | exact Grows.refl _ | refine Grows.more ?_ _ | refine Grows.alloc ?_ _ | refine Grows.drewN ?_ _ | refine Grows.drew ?_))⟩ (fun W5 h5 => ?_)
        have HB5 := Lib.hid h5.1
        have HC5 := Lib.hid h5.2
        have y0 := (h5.2.cell (a := ⟨w.heap.size, 0, none⟩) ix hne).trans x0
        have y1 := (h5.2.cell (a := ⟨w.heap.size, 1, none⟩) ix hne).trans x1
        have y2 := (h5.2.cell (a := ⟨w.heap.size, 2, none⟩) ix hne).trans x2
        have ix5 : InHeap w.heap.size W5 := Nat.lt_of_lt_of_le ix h5.2.size
        obtain ⟨r0, r1, -⟩ := co_cells h5.1 hsl
        have ff5 := co_free h5.1
        have ig5 := co_in h5.1
        clear h5 hb3 z0 z1 z2 ix3 ff3 ig3 s0 s1 s34
        cases hlv : (lineV c.s.cur at_ del ins.length).2 with
        | true =>
          have hlv := Lib.hid hlv
          go_wp2_with fail
          go_region_held3 (fun w' => w'.cell? ⟨g, 1, none⟩ = some (.int .i64 c.s.cur) ∧ w'.cell? ⟨w.heap.size, 0, none⟩ = some (.int .i64 at_) ∧ w'.cell? ⟨w.heap.size, 1, none⟩ = some (.int .i64 del) ∧ w'.cell? ⟨w.heap.size, 2, none⟩ = some (.slice I ins.length ci))
            (first | (simp [go_sem, ig5, ix5, r1, y0, y1, y2]; done))
            (first | (go_at_call 80; (refine Calls.mono (refLine_any c.s.cur at_ del I ins.length ci _ HM.out.good.s.cur HA.out HD.out (by omega)) ?_); rw [hlv.out]; rintro e w8 ⟨rfl, m8, rfl⟩))
          go_wp2_with fail
          refine keep_world (G := fun W => blk W g = coC (.slice B L'.length cB) (lineV c.s.cur at_ del ins.length).1 (shiftV c.s.ms at_ del ins.length) (.string (tx c.last)) rv (.bool c.dirty) uv (.pointer (some ⟨gs, 0, none⟩)) hv (.slice dA D.length dC) ∧ Chg (fun b => b = g) w2 W) _ ⟨blk_grows ((co_put HB5.out (by simp [coC_size]) 1 _).trans (coC_set1 _ _ _ _ _ _ _ _ _ _ _ hsl)) (by simp [coC_size]) (by repeat' first | exact Grows.refl _ | refine Grows.more ?_ _ | refine Grows.alloc ?_ _ | refine Grows.drewN ?_ _ | refine Grows.drew ?_), ((HC5.out.trans (chg_one rfl)).trans (Chg.of_grows (by repeat' first | exact Grows.refl _ | refine Grows.more ?_ _ | refine Grows.alloc ?_ _ | refine Grows.drewN ?_ _ | refine Grows.drew ?_)) : Chg (fun b => b = g) _ _)⟩ (fun W7 h7 => ?_)
          have HB7 := Lib.hid h7.1
          have HC7 := Lib.hid h7.2
          have HO7 := Lib.hid (H2.out.keep h7.2 H2.out.keepG).2.2.2.2.1
          have z0 := (h7.2.cell (a := ⟨w.heap.size, 0, none⟩) ix hne).trans x0
          have z1 := (h7.2.cell (a := ⟨w.heap.size, 1, none⟩) ix hne).trans x1
          have z2 := (h7.2.cell (a := ⟨w.heap.size, 2, none⟩) ix hne).trans x2
          have ix7 : InHeap w.heap.size W7 := Nat.lt_of_lt_of_le ix h7.2.size
          have hs7 := h7.2.size
          obtain ⟨-, -, -, -, -, -, -, -, r34⟩ := co_cells h7.1 hsl
          have ff7 := co_free h7.1
          have ig7 := co_in h7.1
          have hcu : Hid ((lineV c.s.cur at_ del ins.length).1 = curV c.s.cur ⟨at_, del, ins⟩ L'.length) := Lib.hid (by unfold curV; rw [if_pos hlv.out])
          clear h7 ff5 ig5 ix5 r0 r1 y0 y1 y2
          go_region_law (refine step_append3 (.tmp 75) (.tmp 77) 31 base 24 i0 (.agg #[.int .i64 0, .int .i64 0, .slice none 0 0]) dA dC D.length (D.flatMap Spx.cells) W7.heap.size (.int .i64 at_) (.int .i64 del) (.slice I ins.length ci) (by rfl) (by rfl) Try.underlying31 hi hz0 hz1 hz2 (by rfl) (by simp [Act.eval, Act.put]) (own_growsK HO7.out (by repeat' first | exact Grows.refl _ | refine Grows.more ?_ _ | refine Grows.alloc ?_ _ | refine Grows.drewN ?_ _ | refine Grows.drew ?_)) (by simp [Act.eval, Act.put]) (by simp [go_sem]) (by simp [go_sem]) (by simp [go_sem]) ⟨rfl, rfl, rfl⟩ hDn (by have := hbs.out; simp; omega) ?_; intro g5 cap5 w6 hown6 hgr6 hlie6; have hx6 := Lib.hid ((Chg.of_grows ((by repeat' first | exact Grows.refl _ | refine Grows.more ?_ _ | refine Grows.alloc ?_ _ | refine Grows.drewN ?_ _ | refine Grows.drew ?_) : Grows W7 _)).trans hgr6); have ho6 := Lib.hid hown6; have hl6 := Lib.hid (hlie6.imp id (fun e => (by simp at e; omega : w2.heap.size ≤ g5))); have hb6 := (hx6.out.blk ig7 hdg.out).trans HB7.out; have ig6 := co_in hb6; have ff6 := co_free hb6; have HB6 := Lib.hid hb6; obtain ⟨-, -, -, -, -, -, -, -, s34⟩ := co_cells hb6 hsl; clear hown6 hgr6 hlie6 hb6)
          all_goals
            go_wp2_with fail
            go_ret
            refine ⟨by rw [hV.out]; rfl, ?_⟩
            have hGd := hGd.out
            rw [hV.out] at hGd ⊢
            exact ref_spl_fin (x := ⟨at_, del, I, ci, ins⟩) HM.out H2.out GW.out LB.out HI2.out ((HC7.out.mono (fun b _ e => .inl e)).trans (hx6.out.mono fun b _ e => .inr e)) ho6.out hl6.out HB6.out hcu.out hsl hGd
        | false =>
          have hlv := Lib.hid hlv
          go_wp2_with fail
          go_region_held3 (fun w' => w'.cell? ⟨g, 1, none⟩ = some (.int .i64 c.s.cur) ∧ w'.cell? ⟨w.heap.size, 0, none⟩ = some (.int .i64 at_) ∧ w'.cell? ⟨w.heap.size, 1, none⟩ = some (.int .i64 del) ∧ w'.cell? ⟨w.heap.size, 2, none⟩ = some (.slice I ins.length ci))
            (first | (simp [go_sem, ig5, ix5, r1, y0, y1, y2]; done))
            (first | (go_at_call 80; (refine Calls.mono (refLine_any c.s.cur at_ del I ins.length ci _ HM.out.good.s.cur HA.out HD.out (by omega)) ?_); rw [hlv.out]; rintro e w8 ⟨rfl, m8, rfl⟩))
          have a0 : 0 ≤ at_ := HB.out.1
          have a1 : at_ ≤ 1000000 := by have := HB.out.2; omega
          have aw : IntKind.i64.wrap (at_ + 1) = at_ + 1 := IntWalk.i64_in _ (by omega)
          have hmn := Lib.hid (min_int (at_ + 1) (L'.length : Int))
          go_wp2_with fail
          refine keep_world (G := fun W => blk W g = coC (.slice B L'.length cB) (min (at_ + 1) (L'.length : Int)) (shiftV c.s.ms at_ del ins.length) (.string (tx c.last)) rv (.bool c.dirty) uv (.pointer (some ⟨gs, 0, none⟩)) hv (.slice dA D.length dC) ∧ Chg (fun b => b = g) w2 W) _ ⟨blk_grows ((co_put HB5.out (by simp [coC_size]) 1 _).trans (coC_set1 _ _ _ _ _ _ _ _ _ _ _ hsl)) (by simp [coC_size]) (by repeat' first | exact Grows.refl _ | refine Grows.more ?_ _ | refine Grows.alloc ?_ _ | refine Grows.drewN ?_ _ | refine Grows.drew ?_), ((HC5.out.trans (chg_one rfl)).trans (Chg.of_grows (by repeat' first | exact Grows.refl _ | refine Grows.more ?_ _ | refine Grows.alloc ?_ _ | refine Grows.drewN ?_ _ | refine Grows.drew ?_)) : Chg (fun b => b = g) _ _)⟩ (fun W7 h7 => ?_)
          have HB7 := Lib.hid h7.1
          have HC7 := Lib.hid h7.2
          have HO7 := Lib.hid (H2.out.keep h7.2 H2.out.keepG).2.2.2.2.1
          have z0 := (h7.2.cell (a := ⟨w.heap.size, 0, none⟩) ix hne).trans x0
          have z1 := (h7.2.cell (a := ⟨w.heap.size, 1, none⟩) ix hne).trans x1
          have z2 := (h7.2.cell (a := ⟨w.heap.size, 2, none⟩) ix hne).trans x2
          have ix7 : InHeap w.heap.size W7 := Nat.lt_of_lt_of_le ix h7.2.size
          have hs7 := h7.2.size
          obtain ⟨-, -, -, -, -, -, -, -, r34⟩ := co_cells h7.1 hsl
          have ff7 := co_free h7.1
          have ig7 := co_in h7.1
          have hcu : Hid ((min (at_ + 1) (L'.length : Int)) = curV c.s.cur ⟨at_, del, ins⟩ L'.length) := Lib.hid (by unfold curV; rw [if_neg (by rw [hlv.out]; decide)])
          clear h7 ff5 ig5 ix5 r0 r1 y0 y1 y2
          go_region_law (refine step_append3 (.tmp 75) (.tmp 77) 31 base 24 i0 (.agg #[.int .i64 0, .int .i64 0, .slice none 0 0]) dA dC D.length (D.flatMap Spx.cells) W7.heap.size (.int .i64 at_) (.int .i64 del) (.slice I ins.length ci) (by rfl) (by rfl) Try.underlying31 hi hz0 hz1 hz2 (by rfl) (by simp [Act.eval, Act.put]) (own_growsK HO7.out (by repeat' first | exact Grows.refl _ | refine Grows.more ?_ _ | refine Grows.alloc ?_ _ | refine Grows.drewN ?_ _ | refine Grows.drew ?_)) (by simp [Act.eval, Act.put]) (by simp [go_sem]) (by simp [go_sem]) (by simp [go_sem]) ⟨rfl, rfl, rfl⟩ hDn (by have := hbs.out; simp; omega) ?_; intro g5 cap5 w6 hown6 hgr6 hlie6; have hx6 := Lib.hid ((Chg.of_grows ((by repeat' first | exact Grows.refl _ | refine Grows.more ?_ _ | refine Grows.alloc ?_ _ | refine Grows.drewN ?_ _ | refine Grows.drew ?_) : Grows W7 _)).trans hgr6); have ho6 := Lib.hid hown6; have hl6 := Lib.hid (hlie6.imp id (fun e => (by simp at e; omega : w2.heap.size ≤ g5))); have hb6 := (hx6.out.blk ig7 hdg.out).trans HB7.out; have ig6 := co_in hb6; have ff6 := co_free hb6; have HB6 := Lib.hid hb6; obtain ⟨-, -, -, -, -, -, -, -, s34⟩ := co_cells hb6 hsl; clear hown6 hgr6 hlie6 hb6)
          all_goals
            go_wp2_with fail
            go_ret
            refine ⟨by rw [hV.out]; rfl, ?_⟩
            have hGd := hGd.out
            rw [hV.out] at hGd ⊢
            exact ref_spl_fin (x := ⟨at_, del, I, ci, ins⟩) HM.out H2.out GW.out LB.out HI2.out ((HC7.out.mono (fun b _ e => .inl e)).trans (hx6.out.mono fun b _ e => .inr e)) ho6.out hl6.out HB6.out hcu.out hsl hGd
    · have hV : Hid (coSplice c ⟨at_, del, ins⟩ = (c, er)) := Lib.hid (by rw [hVs.out]; exact if_pos h0)
      have h0' : (er == 0) = false := by rw [beq_eq_false_iff_ne]; exact h0
      clear hok hVs
      go_wp2_with fail
      go_ret
      exact ⟨by rw [hV.out]; rfl, by rw [hV.out]; exact (HM.out.grows (by repeat' first | exact Grows.refl _ | refine Grows.more ?_ _ | refine Grows.alloc ?_ _ | refine Grows.drew ?_)).moved (Chg.of_grows (by repeat' first | exact Grows.refl _ | refine Grows.more ?_ _ | refine Grows.alloc ?_ _ | refine Grows.drew ?_))⟩
end
end Go.Proofs.Ythanghgfakibnaa
