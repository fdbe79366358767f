/-
  Several texts of the proof: CoreBegin, CoreUndo.
-/
import Derived.Test.YthanghgfakibnaaPk28
/-
  Core: Begin, End, Abort, Undo: walks.
-/
namespace Go.Proofs.Ythanghgfakibnaa
open Go.RowKit

set_option maxRecDepth 3000 in
theorem zeroState (w : World) : (zeroValue 53).run Try.prog w = .ok (.agg (stC (.pointer none) 0 zeros)) w := by kernel_rfl
set_option maxRecDepth 3000 in
theorem over_St {t u : Value} {a b : Int} {ms : List Int} (h : ms.length = 26) : over (stC t a zeros) 0 (stC u b ms) = stC u b ms := by
  apply Array.toList_inj.1
  simp [over, stC, MA, h]
attribute [local go_sem ↓] ldMarks_eq ldState_eq stMarks_eq stState_eq zeroState
attribute [local go_sem] loadMarks loadState storeMarks storeState loadMarks_if loadState_if storeMarks_if storeState_if coC_size stC_size coC_marks coC_state coC_overS over_St stC_all
set_option maxRecDepth 3000 in
theorem stC_onP (g : Nat) (cur : Int) (ms : List Int) : OneCells (stC (.pointer (some ⟨g, 0, none⟩)) cur ms) := stC_one _ _ _ rfl
attribute [local go_sem] stC_onP
section
variable {base : Nat} {ok K : Nat → Prop} {w : World} {g r r2 : Nat} {c : CoV} {tv rv uv wv hv dv : Value} {D : List Spx}
set_option maxRecDepth 3000 in
theorem co_putT {w : World} {tv last rv dv uv wv hv nv : Value} {cur : Int} {ms : List Int} (hb : blk w g = coC tv cur ms last rv dv uv wv hv nv) (hm : ms.length = 26) (wv' hv' nv' : Value) :
    blk (((w.setCell ⟨g, 32, none⟩ wv').setCell ⟨g, 33, none⟩ hv').setCell ⟨g, 34, none⟩ nv') g = coC tv cur ms last rv dv uv wv' hv' nv' := by
  have hz : ∀ {a b c d e f h i : Value} {n : Int}, 0 < (coC a n ms b c d e f h i).size := by intros; simp [coC_size]
  have h1 := (co_put hb hz 32 wv').trans (coC_set32 _ _ _ _ _ _ _ _ _ _ _ hm)
  have h2 := (co_put h1 hz 33 hv').trans (coC_set33 _ _ _ _ _ _ _ _ _ _ _ hm)
  exact (co_put h2 hz 34 nv').trans (coC_set34 _ _ _ _ _ _ _ _ _ _ _ hm)
set_option maxRecDepth 3000 in
theorem chg_three {w : World} (a b c : Value) {K : Nat → Prop} (hk : K g) : Chg K w (((w.setCell ⟨g, 32, none⟩ a).setCell ⟨g, 33, none⟩ b).setCell ⟨g, 34, none⟩ c) := ((chg_one hk).trans (chg_one hk)).trans (chg_one hk)
set_option maxRecDepth 3000 in
theorem begin_fin {p q r3 t : Nat} (h : CoreM kI base ok K w g c (.pointer (some ⟨t, 0, none⟩)) (.pointer (some ⟨p, 0, none⟩)) uv wv hv dv r r2 D) {w2 : World} (hgw : Grows w w2)
    (hsB : blk w2 w.heap.size = stC (.pointer (some ⟨t, 0, none⟩)) c.s.cur c.s.ms) (hb2 : blk w2 g = coC (.pointer (some ⟨t, 0, none⟩)) c.s.cur c.s.ms (.string (tx c.last)) (.pointer (some ⟨p, 0, none⟩)) (.bool c.dirty) uv wv hv dv)
    (hq : w.heap.size + 1 ≤ q) (hr : w.heap.size + 1 ≤ r3) (hR : Regs (fun b => ok b ∧ b < w.heap.size) w2 q r3 c.regs) :
    Moved kI base ok K g w { c with was := some (c.s, c.regs), did := [] } (((w2.setCell ⟨g, 32, none⟩ (.pointer (some ⟨w.heap.size, 0, none⟩))).setCell ⟨g, 33, none⟩ (.pointer (some ⟨q, 0, none⟩))).setCell ⟨g, 34, none⟩ (.slice none 0 0)) := by
  have hm := h.good.s.many
  have hlt := h.lt h.Kg
  have hs2 := hgw.below.size
  have hc : Chg (fun b => b = g) w (((w2.setCell ⟨g, 32, none⟩ (.pointer (some ⟨w.heap.size, 0, none⟩))).setCell ⟨g, 33, none⟩ (.pointer (some ⟨q, 0, none⟩))).setCell ⟨g, 34, none⟩ (.slice none 0 0)) := (Chg.of_grows hgw).trans (chg_three _ _ _ rfl)
  have hcK := (Chg.of_grows (p := K) hgw).trans (chg_three (.pointer (some ⟨w.heap.size, 0, none⟩)) (.pointer (some ⟨q, 0, none⟩)) (.slice none 0 0) h.Kg)
  have ho : ∀ b, b < w.heap.size → (ok b ∧ ¬ b = r3) → ¬ b = g := fun b _ hk e => h.dis g h.Kg (e ▸ hk.1)
  have hl : kI.LH (fun b => ok b ∧ ¬ b = r3) _ (.pointer (some ⟨t, 0, none⟩)) c.s.L := kI.lhChg (kI.lhMono h.lines (ok' := fun b => ok b ∧ ¬ b = r3) fun b hb hk => ⟨hk, by omega⟩) hc ho
  have hsz : w.heap.size < w2.heap.size := Blk.inHeap hsB (by simp [stC_size])
  refine (h.begun (r3 := r3) hc (co_putT hb2 hm _ _ _) ⟨w.heap.size, _, rfl, ?_, hl, h.top _ (Nat.le_refl _), by omega⟩ ⟨q, rfl, ?_, h.top q (by omega), hR.ne⟩ (by omega)).moved2 hcK (.inr (by omega))
  · rw [Chg.blk (chg_three (K := fun b => b = g) _ _ _ rfl) hsz (by omega)]
    exact hsB
  · refine Regs.chg (q := fun b => b = g) (hR.mono' fun b hb hk => ⟨hk.1, by omega⟩) (chg_three _ _ _ rfl) (by omega) (by omega) fun b _ hk e => h.dis g h.Kg (e ▸ hk.1)
set_option maxRecDepth 3000 in
set_option maxHeartbeats 2000000 in
theorem begin_any (h : CoreM kI base ok K w g c tv rv uv wv hv dv r r2 D) :
    Calls Try.prog 22 #[.pointer (some ⟨g, 0, none⟩)] w fun e w' => e = .returned (.int .i64 (coBegin c).2) ∧ Moved kI base ok K g w (coBegin c).1 w' := by
  have hb := h.cells
  obtain ⟨T, rfl, hT, hTL, hTu⟩ := h.lines
  obtain ⟨p, rfl, hR, hp⟩ := h.regs
  have hm := h.good.s.many
  obtain ⟨q0, -, -, q29, -, -, q32, -, -⟩ := co_cells hb hm
  have ig := co_in hb
  have HM := Lib.hid h
  cases hw : c.was with
  | some y =>
    have hwa := h.was
    rw [hw] at hwa
    obtain ⟨⟨gs, t, rfl, -⟩, -⟩ := hwa
    have hV : Hid (coBegin c = (c, 2)) := Lib.hid (by unfold coBegin; rw [hw]; rfl)
    clear h hT hTL hTu hR hp hw hm hb
    go_enter Try.func22, Try.ntmps22
    go_wp2_with fail
    (with_reducible refine (coNone_no g T.g _ q0).mono ?_)
    rintro e w1 ⟨rfl, rfl⟩
    go_wp2_with fail
    go_ret
    exact ⟨by rw [hV.out]; rfl, by rw [hV.out]; exact HM.out.moved (Chg.refl _ _)⟩
  | none =>
    have hwa := h.was
    rw [hw] at hwa
    obtain ⟨rfl, -⟩ := hwa
    have hV : Hid (coBegin c = ({ c with was := some (c.s, c.regs), did := [] }, 0)) := Lib.hid (by unfold coBegin; rw [hw]; rfl)
    have HR := Lib.hid (hR.mono' (ok' := fun b => ok b ∧ b < w.heap.size) fun b hb hk => ⟨hk, hb⟩)
    clear h hT hTL hTu hR hp hw
    go_enter Try.func22, Try.ntmps22
    go_wp2_with fail
    (with_reducible refine (coNone_no g T.g _ q0).mono ?_)
    rintro e w1 ⟨rfl, rfl⟩
    go_wp2_with fail
    (with_reducible refine (clone_regs p r c.regs _ (HR.out.grows (by repeat' first | exact Grows.refl _ | refine Grows.more ?_ _ | refine Grows.alloc ?_ _))).mono ?_)
    rintro e w2 ⟨q, r3, rfl, hg, hq, hr3, hR3⟩
    have hgw : Hid (Grows w w2) := Lib.hid (((Grows.refl _).alloc _).trans hg)
    have hsB : Hid (blk w2 w.heap.size = stC (.pointer (some ⟨T.g, 0, none⟩)) c.s.cur c.s.ms) := Lib.hid (blk_grows (by simp [go_sem]) (by simp [stC_size]) hg)
    have hb2 := blk_grows hb (by simp [coC_size]) hgw.out
    have HB2 := Lib.hid hb2
    have hm2 := Lib.hid hm
    obtain ⟨-, -, -, -, -, -, s32, s33, s34⟩ := co_cells hb2 hm
    have ff := co_free hb2
    have ig2 := co_in hb2
    have HQ : Hid (w.heap.size + 1 ≤ q ∧ w.heap.size + 1 ≤ r3) := Lib.hid (by simp at hq hr3; omega)
    have HR3 := Lib.hid hR3
    clear hg hq hr3 hR3 hb hb2 hm
    go_wp2_with fail
    go_ret
    refine ⟨by rw [hV.out]; rfl, ?_⟩
    rw [hV.out]
    exact begin_fin HM.out hgw.out hsB.out HB2.out HQ.out.1 HQ.out.2 HR3.out
/-- What End answers. -/
def EndOut (k : Kd) (base : Nat) (ok K : Nat → Prop) (g : Nat) (w : World) (c : CoV) (e : Ending) (w' : World) : Prop :=
  ∃ (A : Option Addr) (cap : Nat) (D : List Spx), e = .returned (.slice A D.length cap) ∧ D.map Spx.v = (coEnd c).2 ∧ w'.ownsRow base 24 3 (.slice A D.length cap) D.length (D.flatMap Spx.cells) ∧ (∀ s ∈ D, SpIn ok w' s) ∧ (∀ b, (Value.slice A D.length cap).ownBlock = some b → K b) ∧ CoreAt k base ok K w' g (coEnd c).1 ∧ Chg K w w'
set_option maxRecDepth 3000 in
theorem co_putU {w : World} {tv last rv dv uv wv hv nv : Value} {cur : Int} {ms : List Int} (hb : blk w g = coC tv cur ms last rv dv uv wv hv nv) (hm : ms.length = 26) (uv' dv' : Value) :
    blk ((w.setCell ⟨g, 31, none⟩ uv').setCell ⟨g, 30, none⟩ dv') g = coC tv cur ms last rv dv' uv' wv hv nv := by
  have hz : ∀ {a b c d e f h i : Value} {n : Int}, 0 < (coC a n ms b c d e f h i).size := by intros; simp [coC_size]
  have h1 := (co_put hb hz 31 uv').trans (coC_set31 _ _ _ _ _ _ _ _ _ _ _ hm)
  exact (co_put h1 hz 30 dv').trans (coC_set30 _ _ _ _ _ _ _ _ _ _ _ hm)
set_option maxRecDepth 3000 in
theorem end_fin {k : Kd} {A : Option Addr} {cap : Nat} (h : CoreM k base ok K w g c tv rv uv wv hv (.slice A D.length cap) r r2 D) {y : StV × RS} (hw : c.was = some y) {u : Bool} {uv' : Value} {w' : World} (hc : Chg (fun b => b = g) w w')
    (hb : blk w' g = coC tv c.s.cur c.s.ms (.string (tx c.last)) rv (.bool (if u = true then true else c.dirty)) uv' (.pointer none) (.pointer none) (.slice none 0 0)) (hu : uv' = if u = true then wv else uv) (hul : u = decide (0 < D.length)) :
    EndOut k base ok K g w c (.returned (.slice A D.length cap)) w' := by
  obtain ⟨a1, a2, a3, a4, a5, a6, a7⟩ := h.keep hc h.keepG
  have hl : c.did.length = D.length := by rw [← h.didV]; simp
  have hE : coEnd c = ({ c with undo := if u = true then some y.1 else c.undo, dirty := if u = true then true else c.dirty, was := none, did := [] }, c.did) := by
    unfold coEnd
    rw [hw]
    simp only [hl]
    by_cases h0 : D.length = 0
    · rw [if_pos h0]
      have : u = false := by rw [hul]; simp [h0]
      subst this
      have : c.did = [] := List.eq_nil_of_length_eq_zero (by omega)
      simp [this]
    · rw [if_neg h0]
      have : u = true := by rw [hul]; simp; omega
      subst this
      rfl
  refine ⟨A, cap, D, rfl, by rw [hE]; exact h.didV, a5, a6, fun b hb => (h.dK b hb).1, ?_, hc.mono (fun b _ e => e ▸ h.Kg)⟩
  rw [hE]
  exact (h.ended hc hw hb hu).at_
set_option maxRecDepth 3000 in
set_option maxHeartbeats 2000000 in
theorem end_any (h : CoreM kI base ok K w g c tv rv uv wv hv dv r r2 D) :
    Calls Try.prog 24 #[.pointer (some ⟨g, 0, none⟩)] w (EndOut kI base ok K g w c) := by
  have hb := h.cells
  obtain ⟨T, rfl, hT, hTL, hTu⟩ := h.lines
  have hm := h.good.s.many
  obtain ⟨A, cap, rfl⟩ := own_form h.did
  obtain ⟨q0, -, -, -, q30, q31, q32, q33, q34⟩ := co_cells hb hm
  have ff := co_free hb
  have ig := co_in hb
  have HM := Lib.hid h
  cases hw : c.was with
  | none =>
    have hwa := h.was
    rw [hw] at hwa
    obtain ⟨rfl, -⟩ := hwa
    have hV : Hid (coEnd c = (c, [])) := Lib.hid (by unfold coEnd; rw [hw])
    clear h hT hTL hTu hm hb hw
    go_enter Try.func24, Try.ntmps24
    go_wp2_with fail
    (with_reducible refine (coNone_no g T.g _ q0).mono ?_)
    rintro e w1 ⟨rfl, rfl⟩
    go_wp2_with fail
    go_ret
    exact ⟨none, 0, [], rfl, by rw [hV.out]; rfl, World.ownsRow_nil _ _ _ _, (fun s hs => by cases hs), (fun b e => by cases e), by rw [hV.out]; exact HM.out.at_, Chg.refl _ _⟩
  | some y =>
    have hwa := h.was
    rw [hw] at hwa
    obtain ⟨⟨gs, t, rfl, -⟩, -⟩ := hwa
    have hW := Lib.hid hw
    have HB := Lib.hid hb
    have hm2 := Lib.hid hm
    clear h hT hTL hTu hm hb hw
    by_cases h0 : 0 < D.length
    · have h0' : (0 : Int) < (D.length : Int) := by omega
      go_enter Try.func24, Try.ntmps24
      go_wp2_with fail
      (with_reducible refine (coNone_no g T.g _ q0).mono ?_)
      rintro e w1 ⟨rfl, rfl⟩
      go_wp2_with fail
      go_ret
      exact end_fin (u := true) HM.out hW.out (((chg_one (K := fun b => b = g) rfl).trans (chg_one rfl)).trans (chg_three _ _ _ rfl)) (co_putT (co_putU HB.out hm2.out _ _) hm2.out _ _ _) rfl (by simp [h0])
    · have h0' : ¬ (0 : Int) < (D.length : Int) := by omega
      go_enter Try.func24, Try.ntmps24
      go_wp2_with fail
      (with_reducible refine (coNone_no g T.g _ q0).mono ?_)
      rintro e w1 ⟨rfl, rfl⟩
      go_wp2_with fail
      go_ret
      exact end_fin (u := false) HM.out hW.out (chg_three _ _ _ rfl) (co_putT HB.out hm2.out _ _ _) rfl (by simp [h0])
set_option maxRecDepth 3000 in
theorem abort_fin {k : Kd} {tv' : Value} (h : CoreM k base ok K w g c tv rv uv wv hv dv r r2 D) {y : StV × RS} (hw : c.was = some y) (hl : k.LH ok w tv' y.1.L) (hm2 : y.1.ms.length = 26) {w' : World}
    (hg : Grows (((((setBlk w g (coC tv' y.1.cur y.1.ms (.string (tx c.last)) rv (.bool c.dirty) uv wv hv dv)).setCell ⟨g, 29, none⟩ hv).setCell ⟨g, 32, none⟩ (.pointer none)).setCell ⟨g, 33, none⟩ (.pointer none)).setCell ⟨g, 34, none⟩ (.slice none 0 0)) w') :
    CoreAt k base ok K w' g { c with s := y.1, regs := y.2, was := none, did := [] } ∧ Chg K w w' := by
  have hz : ∀ {a b c d e f h i : Value} {n : Int} {ms : List Int}, 0 < (coC a n ms b c d e f h i).size := by intros; simp [coC_size]
  have h1 := Blk.get (coC tv' y.1.cur y.1.ms (.string (tx c.last)) rv (.bool c.dirty) uv wv hv dv) h.cells hz
  have h2 := (co_put h1 hz 29 hv).trans (coC_set29 _ _ _ _ _ _ _ _ _ _ _ hm2)
  have h3 := co_putT h2 hm2 (.pointer none) (.pointer none) (.slice none 0 0)
  have hc : ∀ {Q : Nat → Prop}, Q g → Chg Q w w' := fun hq => (((chg_setBlk hq).trans (chg_one hq)).trans (chg_three _ _ _ hq)).trans (Chg.of_grows hg)
  exact ⟨(h.left (hc rfl) hw hl (blk_grows h3 hz hg)).at_, hc h.Kg⟩
set_option maxRecDepth 3000 in
set_option maxHeartbeats 2000000 in
theorem abort_any (h : CoreM kI base ok K w g c tv rv uv wv hv dv r r2 D) :
    Calls Try.prog 13 #[.pointer (some ⟨g, 0, none⟩)] w fun e w' => e = .returned (.tuple #[]) ∧ CoreAt kI base ok K w' g (coAbort c) ∧ Chg K w w' := by
  have hb := h.cells
  obtain ⟨T, rfl, hT, hTL, hTu⟩ := h.lines
  have hm := h.good.s.many
  obtain ⟨q0, -, -, q29, q30, q31, q32, q33, q34⟩ := co_cells hb hm
  have ff := co_free hb
  have ig := co_in hb
  have HM := Lib.hid h
  cases hw : c.was with
  | none =>
    have hwa := h.was
    rw [hw] at hwa
    obtain ⟨rfl, -⟩ := hwa
    have hV : Hid (coAbort c = c) := Lib.hid (by unfold coAbort; rw [hw])
    clear h hT hTL hTu hm hb hw
    go_enter Try.func13, Try.ntmps13
    go_wp2_with fail
    (with_reducible refine (coNone_no g T.g _ q0).mono ?_)
    rintro e w1 ⟨rfl, rfl⟩
    go_wp2_with fail
    exact bodyPost_ret (v := .tuple #[]) (results_none rfl _ _ _) rfl ⟨rfl, by rw [hV.out]; exact HM.out.at_, Chg.refl _ _⟩
  | some y =>
    have hwa := h.was
    rw [hw] at hwa
    obtain ⟨⟨gs, t, rfl, hbs, hls, hks⟩, ⟨p2, rfl, -⟩, -⟩ := hwa
    obtain ⟨Ts, rfl, -⟩ := id hls
    have hm2 := (h.good.was y hw).many
    have hW := Lib.hid hw
    have igs : InHeap gs w := Blk.inHeap hbs (by simp [stC_size])
    have HL := Lib.hid hls
    have hz : 0 < (coC (.pointer (some ⟨T.g, 0, none⟩)) c.s.cur c.s.ms (.string (tx c.last)) rv (.bool c.dirty) uv (.pointer (some ⟨gs, 0, none⟩)) (.pointer (some ⟨p2, 0, none⟩)) dv).size := by simp [coC_size]
    have hb' := Blk.get (coC (.pointer (some ⟨Ts.g, 0, none⟩)) y.1.cur y.1.ms (.string (tx c.last)) rv (.bool c.dirty) uv (.pointer (some ⟨gs, 0, none⟩)) (.pointer (some ⟨p2, 0, none⟩)) dv) hb hz
    obtain ⟨-, -, -, s29, -, -, s32, s33, s34⟩ := co_cells hb' hm2
    have ff' := co_free hb'
    have hV : Hid (coAbort c = { c with s := y.1, regs := y.2, was := none, did := [] }) := Lib.hid (by unfold coAbort; rw [hw])
    have hne : Hid (¬ gs = g) := Lib.hid (fun e => h.dis g h.Kg (e ▸ hks))
    clear h hT hTL hTu hw hls hks
    go_enter Try.func13, Try.ntmps13
    go_wp2_with fail
    (with_reducible refine (coNone_no g T.g _ q0).mono ?_)
    rintro e w1 ⟨rfl, rfl⟩
    go_wp2_with fail
    go_region_law (fail)
    all_goals
      go_wp2_with fail
      go_end0
      exact ⟨rfl, by rw [hV.out]; exact abort_fin HM.out hW.out HL.out hm2 (by repeat' first | exact Grows.refl _ | refine Grows.drew ?_)⟩
end
end Go.Proofs.Ythanghgfakibnaa

/-
  Core: Undo: the walk.
-/
namespace Go.Proofs.Ythanghgfakibnaa
open Go.RowKit

set_option maxRecDepth 3000 in
theorem stC_get0 {t : Value} {a : Int} {ms : List Int} (h : 0 < (stC t a ms).size) : (stC t a ms)[0]'h = t := by
  have := stC_0 t a ms
  rw [Array.getElem?_eq_getElem h] at this
  exact Option.some.inj this
attribute [local go_sem] stC_get0
attribute [local go_sem ↓] ldMarks_eq ldState_eq stMarks_eq stState_eq zeroState
attribute [local go_sem] loadMarks loadState storeMarks storeState loadMarks_if loadState_if storeMarks_if storeState_if coC_size stC_size coC_marks coC_state coC_overS over_St stC_all stC_onP stC_0
/-- The splices that Undo tells. -/
def undoL (c : CoV) : List SpV := if (coUndo c).2 = 0 then [⟨0, c.s.L.length, (coUndo c).1.s.L⟩] else []
def UndoOut (k : Kd) (base : Nat) (ok K : Nat → Prop) (g : Nat) (w : World) (c : CoV) (e : Ending) (w' : World) : Prop :=
  ∃ (A : Option Addr) (cap : Nat) (D : List Spx), e = .returned (.tuple #[.slice A D.length cap, .int .i64 (coUndo c).2]) ∧ D.map Spx.v = undoL c ∧ Rd w' 3 A D.length (D.flatMap Spx.cells) ∧ (∀ a, A = some a → w.heap.size ≤ a.block) ∧ (∀ s ∈ D, LRd (fun b => w.heap.size ≤ b) w' s.A s.cap s.ins) ∧ CoreAt k base ok K w' g (coUndo c).1 ∧ Chg K w w'
section
variable {base : Nat} {ok K : Nat → Prop} {w : World} {g r r2 : Nat} {c : CoV} {tv rv uv wv hv dv : Value} {D : List Spx}
set_option maxRecDepth 3000 in
theorem undo_fin {k : Kd} {tv' : Value} (h : CoreM k base ok K w g c tv rv uv wv hv dv r r2 D) {s : StV} (hu : c.undo = some s) (hl : k.LH ok w tv' s.L) (hm2 : s.ms.length = 26) (ty : TypeId) {W : World}
    (hW : W = (((setBlk w g (coC tv' s.cur s.ms (.string (tx c.last)) rv (.bool c.dirty) uv wv hv dv)).setCell ⟨g, 31, none⟩ (.pointer (some ⟨w.heap.size, 0, none⟩))).setCell ⟨g, 30, none⟩ (.bool true)).alloc (.cells (stC tv c.s.cur c.s.ms) ty)) :
    CoreM k base ok K W g { c with s := s, undo := some c.s, dirty := true } tv' rv (.pointer (some ⟨w.heap.size, 0, none⟩)) wv hv dv r r2 D ∧ Chg K w W := by
  have hz : ∀ {a b c d e f h i : Value} {n : Int} {ms : List Int}, 0 < (coC a n ms b c d e f h i).size := by intros; simp [coC_size]
  have h1 := Blk.get (coC tv' s.cur s.ms (.string (tx c.last)) rv (.bool c.dirty) uv wv hv dv) h.cells hz
  have h2 := co_putU h1 hm2 (.pointer (some ⟨w.heap.size, 0, none⟩)) (.bool true)
  have hg := (Grows.refl (((setBlk w g (coC tv' s.cur s.ms (.string (tx c.last)) rv (.bool c.dirty) uv wv hv dv)).setCell ⟨g, 31, none⟩ (.pointer (some ⟨w.heap.size, 0, none⟩))).setCell ⟨g, 30, none⟩ (.bool true))).alloc (.cells (stC tv c.s.cur c.s.ms) ty)
  rw [← hW] at hg
  have hc : ∀ {Q : Nat → Prop}, Q g → Chg Q w W := fun hq => (((chg_setBlk hq).trans (chg_one hq)).trans (chg_one hq)).trans (Chg.of_grows hg)
  have ho : ∀ b, b < w.heap.size → ok b → ¬ b = g := fun b _ hk e => h.dis g h.Kg (e ▸ hk)
  refine ⟨h.undone (hc rfl) hu hl ⟨w.heap.size, tv, rfl, ?_, k.lhChg h.lines (hc (Q := fun b => b = g) rfl) ho, h.top _ (Nat.le_refl _)⟩ (blk_grows h2 hz hg), hc h.Kg⟩
  rw [hW]
  exact blk_alloc_at _ _ _ _ (by simp)
set_option maxRecDepth 3000 in
set_option maxHeartbeats 2000000 in
theorem undo_any (h : CoreM kI base ok K w g c tv rv uv wv hv dv r r2 D) :
    Calls Try.prog 9 #[.pointer (some ⟨g, 0, none⟩)] w (UndoOut kI base ok K g w c) := by
  have hb := h.cells
  obtain ⟨T, rfl, hT, hTL, hTu⟩ := h.lines
  have hm := h.good.s.many
  obtain ⟨q0, -, -, q29, q30, q31, q32, q33, q34⟩ := co_cells hb hm
  have ff := co_free hb
  have ig := co_in hb
  have HM := Lib.hid h
  cases hw : c.was with
  | some y =>
    have hwa := h.was
    rw [hw] at hwa
    obtain ⟨⟨gs, t, rfl, -⟩, -⟩ := hwa
    have hV : Hid (coUndo c = (c, 2)) := Lib.hid (by unfold coUndo; rw [hw]; rfl)
    clear h hT hTL hTu hw hm hb
    go_enter Try.func9, Try.ntmps9
    go_wp2_with fail
    (with_reducible refine (coNone_no g T.g _ q0).mono ?_)
    rintro e w1 ⟨rfl, rfl⟩
    go_wp2_with fail
    go_ret2
    exact ⟨none, 0, [], by rw [hV.out]; rfl, by unfold undoL; rw [hV.out]; rfl, Rd.nil_, (fun a e => by cases e), (fun s e => by cases e), by rw [hV.out]; exact HM.out.at_, Chg.refl _ _⟩
  | none =>
    have hwa := h.was
    rw [hw] at hwa
    obtain ⟨rfl, -⟩ := hwa
    cases hu : c.undo with
    | none =>
      have hua := h.undo
      rw [hu] at hua
      obtain rfl := hua
      have hV : Hid (coUndo c = (c, 190)) := Lib.hid (by unfold coUndo; rw [hw, hu]; rfl)
      clear h hT hTL hTu hw hm hb hu
      go_enter Try.func9, Try.ntmps9
      go_wp2_with fail
      (with_reducible refine (coNone_no g T.g _ q0).mono ?_)
      rintro e w1 ⟨rfl, rfl⟩
      go_wp2_with fail
      go_ret2
      exact ⟨none, 0, [], by rw [hV.out]; rfl, by unfold undoL; rw [hV.out]; rfl, Rd.nil_, (fun a e => by cases e), (fun s e => by cases e), by rw [hV.out]; exact HM.out.at_, Chg.refl _ _⟩
    | some s =>
      have hua := h.undo
      rw [hu] at hua
      obtain ⟨gs, t, rfl, hbs, hls, hks⟩ := hua
      obtain ⟨Ts, rfl, hTs, hTsL, hTsu⟩ := id hls
      have hm2 := (h.good.undo s hu).many
      have igs : InHeap gs w := Blk.inHeap hbs (by simp [stC_size])
      have hV : Hid (coUndo c = ({ c with s := s, undo := some c.s, dirty := true }, 0)) := Lib.hid (by unfold coUndo; rw [hw, hu]; rfl)
      have hne : ¬ gs = g := fun e => h.dis g h.Kg (e ▸ hks)
      have HU := Lib.hid hu
      have HL := Lib.hid hls
      have HT := Lib.hid hT
      have HTL := Lib.hid hTL
      have HTs := Lib.hid hTs
      have HTU := Lib.hid hTu
      have HTsU := Lib.hid hTsu
      have HTsL := Lib.hid hTsL
      have hlt : g < w.heap.size := h.lt h.Kg
      have hlt2 : ¬ w.heap.size = g := by omega
      have hz : 0 < (coC (.pointer (some ⟨T.g, 0, none⟩)) c.s.cur c.s.ms (.string (tx c.last)) rv (.bool c.dirty) (.pointer (some ⟨gs, 0, none⟩)) (.pointer none) hv dv).size := by simp [coC_size]
      have hb' := Blk.get (coC (.pointer (some ⟨Ts.g, 0, none⟩)) s.cur s.ms (.string (tx c.last)) rv (.bool c.dirty) (.pointer (some ⟨gs, 0, none⟩)) (.pointer none) hv dv) hb hz
      obtain ⟨-, -, -, -, s30, s31, -⟩ := co_cells hb' hm2
      have ff' := co_free hb'
      clear h hT hTL hTu hw hls hks hTs hTsL hTsu hu
      go_enter Try.func9, Try.ntmps9
      go_wp2_with fail
      (with_reducible refine (coNone_no g T.g _ q0).mono ?_)
      rintro e w1 ⟨rfl, rfl⟩
      go_wp2_with fail
      obtain ⟨W2, hW2⟩ : ∃ W, W = (((setBlk w g (coC (.pointer (some ⟨Ts.g, 0, none⟩)) s.cur s.ms (.string (tx c.last)) rv (.bool c.dirty) (.pointer (some ⟨gs, 0, none⟩)) (.pointer none) hv dv)).setCell ⟨g, 31, none⟩ (.pointer (some ⟨w.heap.size, 0, none⟩))).setCell ⟨g, 30, none⟩ (.bool true)).alloc (.cells (stC (.pointer (some ⟨T.g, 0, none⟩)) c.s.cur c.s.ms) 53) := ⟨_, rfl⟩
      have hfin := undo_fin HM.out HU.out HL.out hm2 _ hW2
      have HF := Lib.hid hfin.1
      have HC := Lib.hid hfin.2
      have hso : ∀ b, b < w.heap.size → ok b → ¬ K b := fun b _ hk e => HM.out.dis b e hk
      have HT2 : Hid (T.ok W2) := Lib.hid (by
        obtain ⟨T0, e0, h1, h2, h3⟩ := kI.lhChg HM.out.lines HC.out hso
        have hT0 := HT.out
        exact hT0.same fun b hb => HC.out.block b (hT0.lt b hb) (hso b (hT0.lt b hb) (HTU.out b hb)))
      have HTs2 : Hid (Ts.ok W2) := Lib.hid (HTs.out.same fun b hb => HC.out.block b (HTs.out.lt b hb) (hso b (HTs.out.lt b hb) (HTsU.out b hb)))
      obtain ⟨p0, -⟩ := co_cells HF.out.cells hm2
      rw [← hW2]
      clear hW2 hfin hso hb hb' hbs ff ff' q0 q29 q30 q33 q34 q32 q31 s30 s31 hz
      (with_reducible refine (len_ptr T _ HT2.out).mono ?_)
      rintro e w1 ⟨rfl, rfl⟩
      go_wp2_with fail
      (with_reducible refine (coN g Ts _ p0 HTs2.out).mono ?_)
      rintro e w1 ⟨rfl, rfl⟩
      go_wp2_with fail
      (with_reducible refine (coLines g Ts _ p0 HTs2.out _ rfl).mono ?_)
      rintro e w3 ⟨A3, c3, rfl, hL3, m3, rfl⟩
      have HL3 := Lib.hid hL3
      go_wp2_with fail
      go_ret2
      have hs2 := HC.out.size
      have hg3 : Grows W2 ((more W2 m3).alloc (.cells #[.int .i64 0, .int .i64 T.L.length, .slice A3 Ts.L.length c3] 24)) := by repeat' first | exact Grows.refl _ | refine Grows.more ?_ _ | refine Grows.alloc ?_ _
      refine ⟨some ⟨W2.heap.size + m3.bs.size, 0, none⟩, 1, [⟨0, T.L.length, A3, c3, Ts.L⟩], by rw [hV.out]; rfl, ?_, ?_, ?_, ?_, ?_, HC.out.trans (Chg.of_grows hg3)⟩
      · unfold undoL
        rw [hV.out, HTL.out]
        have := HTsL.out
        simp [Spx.v, this]
      · refine ⟨rfl, fun _ => ⟨_, 0, rfl, by simp, fun j u hj => ?_⟩⟩
        match j, hj with
        | 0, hj => simp [Spx.cells] at hj; subst hj; simp [go_sem]
        | 1, hj => simp [Spx.cells] at hj; subst hj; simp [go_sem]
        | 2, hj => simp [Spx.cells] at hj; subst hj; simp [go_sem]
        | j + 3, hj => simp [Spx.cells] at hj
      · intro a e
        cases e
        show w.heap.size ≤ W2.heap.size + m3.bs.size
        omega
      · intro x hx
        simp at hx
        subst hx
        exact (HL3.out.mono fun b _ hb => by omega).grows (by repeat' first | exact Grows.refl _ | refine Grows.alloc ?_ _)
      · rw [hV.out]
        exact (HF.out.grows hg3).at_
end
end Go.Proofs.Ythanghgfakibnaa
