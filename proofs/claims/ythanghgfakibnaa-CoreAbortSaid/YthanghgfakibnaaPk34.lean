/-
  Core: Undo: the walk.
-/
import Derived.Test.YthanghgfakibnaaPk33
namespace Go.Proofs.Ythanghgfakibnaa
open Go.RowKit

set_option maxRecDepth 3000 in
theorem stC_get0 {t : Value} {a : Int} {ms : List Int} (h : 0 < (stC t a ms).size) : (stC t a ms)[0]'h = t := by
  have := stC_0 t a ms
  rw [Array.getElem?_eq_getElem h] at this
  exact Option.some.inj this
attribute [local go_sem] stC_get0
attribute [local go_sem ↓] ldMarks_eq ldState_eq stMarks_eq stState_eq zeroState
attribute [local go_sem] loadMarks loadState storeMarks storeState loadMarks_if loadState_if storeMarks_if storeState_if coC_size stC_size coC_marks coC_state coC_overS over_St stC_all stC_onP stC_0
/-- The splices that Undo tells. -/
def undoL (c : CoV) : List SpV := if (coUndo c).2 = 0 then [⟨0, c.s.L.length, (coUndo c).1.s.L⟩] else []
def UndoOut (k : Kd) (base : Nat) (ok K : Nat → Prop) (g : Nat) (w : World) (c : CoV) (e : Ending) (w' : World) : Prop :=
  ∃ (A : Option Addr) (cap : Nat) (D : List Spx), e = .returned (.tuple #[.slice A D.length cap, .int .i64 (coUndo c).2]) ∧ D.map Spx.v = undoL c ∧ Rd w' 3 A D.length (D.flatMap Spx.cells) ∧ (∀ a, A = some a → w.heap.size ≤ a.block) ∧ (∀ s ∈ D, LRd (fun b => w.heap.size ≤ b) w' s.A s.cap s.ins) ∧ CoreAt k base ok K w' g (coUndo c).1 ∧ Chg K w w'
section
variable {base : Nat} {ok K : Nat → Prop} {w : World} {g r r2 : Nat} {c : CoV} {tv rv uv wv hv dv : Value} {D : List Spx}
set_option maxRecDepth 3000 in
theorem undo_fin {k : Kd} {tv' : Value} (h : CoreM k base ok K w g c tv rv uv wv hv dv r r2 D) {s : StV} (hu : c.undo = some s) (hl : k.LH ok w tv' s.L) (hm2 : s.ms.length = 26) (ty : TypeId) {W : World}
    (hW : W = (((setBlk w g (coC tv' s.cur s.ms (.string (tx c.last)) rv (.bool c.dirty) uv wv hv dv)).setCell ⟨g, 31, none⟩ (.pointer (some ⟨w.heap.size, 0, none⟩))).setCell ⟨g, 30, none⟩ (.bool true)).alloc (.cells (stC tv c.s.cur c.s.ms) ty)) :
    CoreM k base ok K W g { c with s := s, undo := some c.s, dirty := true } tv' rv (.pointer (some ⟨w.heap.size, 0, none⟩)) wv hv dv r r2 D ∧ Chg K w W := by
  have hz : ∀ {a b c d e f h i : Value} {n : Int} {ms : List Int}, 0 < (coC a n ms b c d e f h i).size := by intros; simp [coC_size]
  have h1 := Blk.get (coC tv' s.cur s.ms (.string (tx c.last)) rv (.bool c.dirty) uv wv hv dv) h.cells hz
  have h2 := co_putU h1 hm2 (.pointer (some ⟨w.heap.size, 0, none⟩)) (.bool true)
  have hg := (Grows.refl (((setBlk w g (coC tv' s.cur s.ms (.string (tx c.last)) rv (.bool c.dirty) uv wv hv dv)).setCell ⟨g, 31, none⟩ (.pointer (some ⟨w.heap.size, 0, none⟩))).setCell ⟨g, 30, none⟩ (.bool true))).alloc (.cells (stC tv c.s.cur c.s.ms) ty)
  rw [← hW] at hg
  have hc : ∀ {Q : Nat → Prop}, Q g → Chg Q w W := fun hq => (((chg_setBlk hq).trans (chg_one hq)).trans (chg_one hq)).trans (Chg.of_grows hg)
  have ho : ∀ b, b < w.heap.size → ok b → ¬ b = g := fun b _ hk e => h.dis g h.Kg (e ▸ hk)
  refine ⟨h.undone (hc rfl) hu hl ⟨w.heap.size, tv, rfl, ?_, k.lhChg h.lines (hc (Q := fun b => b = g) rfl) ho, h.top _ (Nat.le_refl _)⟩ (blk_grows h2 hz hg), hc h.Kg⟩
  rw [hW]
  exact blk_alloc_at _ _ _ _ (by simp)
set_option maxRecDepth 3000 in
set_option maxHeartbeats 2000000 in
theorem undo_any (h : CoreM kI base ok K w g c tv rv uv wv hv dv r r2 D) :
    Calls Try.prog 9 #[.pointer (some ⟨g, 0, none⟩)] w (UndoOut kI base ok K g w c) := by
  have hb := h.cells
  obtain ⟨T, rfl, hT, hTL, hTu⟩ := h.lines
  have hm := h.good.s.many
  obtain ⟨q0, -, -, q29, q30, q31, q32, q33, q34⟩ := co_cells hb hm
  have ff := co_free hb
  have ig := co_in hb
  have HM := Lib.hid h
  cases hw : c.was with
  | some y =>
    have hwa := h.was
    rw [hw] at hwa
    obtain ⟨⟨gs, t, rfl, -⟩, -⟩ := hwa
    have hV : Hid (coUndo c = (c, 2)) := Lib.hid (by unfold coUndo; rw [hw]; rfl)
    clear h hT hTL hTu hw hm hb
    go_enter Try.func9, Try.ntmps9
    go_wp2_with fail
    (with_reducible refine (coNone_no g T.g _ q0).mono ?_)
    rintro e w1 ⟨rfl, rfl⟩
    go_wp2_with fail
    go_ret2
    exact ⟨none, 0, [], by rw [hV.out]; rfl, by unfold undoL; rw [hV.out]; rfl, Rd.nil_, (fun a e => by cases e), (fun s e => by cases e), by rw [hV.out]; exact HM.out.at_, Chg.refl _ _⟩
  | none =>
    have hwa := h.was
    rw [hw] at hwa
    obtain ⟨rfl, -⟩ := hwa
    cases hu : c.undo with
    | none =>
      have hua := h.undo
      rw [hu] at hua
      obtain rfl := hua
      have hV : Hid (coUndo c = (c, 190)) := Lib.hid (by unfold coUndo; rw [hw, hu]; rfl)
      clear h hT hTL hTu hw hm hb hu
      go_enter Try.func9, Try.ntmps9
      go_wp2_with fail
      (with_reducible refine (coNone_no g T.g _ q0).mono ?_)
      rintro e w1 ⟨rfl, rfl⟩
      go_wp2_with fail
      go_ret2
      exact ⟨none, 0, [], by rw [hV.out]; rfl, by unfold undoL; rw [hV.out]; rfl, Rd.nil_, (fun a e => by cases e), (fun s e => by cases e), by rw [hV.out]; exact HM.out.at_, Chg.refl _ _⟩
    | some s =>
      have hua := h.undo
      rw [hu] at hua
      obtain ⟨gs, t, rfl, hbs, hls, hks⟩ := hua
      obtain ⟨Ts, rfl, hTs, hTsL, hTsu⟩ := id hls
      have hm2 := (h.good.undo s hu).many
      have igs : InHeap gs w := Blk.inHeap hbs (by simp [stC_size])
      have hV : Hid (coUndo c = ({ c with s := s, undo := some c.s, dirty := true }, 0)) := Lib.hid (by unfold coUndo; rw [hw, hu]; rfl)
      have hne : ¬ gs = g := fun e => h.dis g h.Kg (e ▸ hks)
      have HU := Lib.hid hu
      have HL := Lib.hid hls
      have HT := Lib.hid hT
      have HTL := Lib.hid hTL
      have HTs := Lib.hid hTs
      have HTU := Lib.hid hTu
      have HTsU := Lib.hid hTsu
      have HTsL := Lib.hid hTsL
      have hlt : g < w.heap.size := h.lt h.Kg
      have hlt2 : ¬ w.heap.size = g := by omega
      have hz : 0 < (coC (.pointer (some ⟨T.g, 0, none⟩)) c.s.cur c.s.ms (.string (tx c.last)) rv (.bool c.dirty) (.pointer (some ⟨gs, 0, none⟩)) (.pointer none) hv dv).size := by simp [coC_size]
      have hb' := Blk.get (coC (.pointer (some ⟨Ts.g, 0, none⟩)) s.cur s.ms (.string (tx c.last)) rv (.bool c.dirty) (.pointer (some ⟨gs, 0, none⟩)) (.pointer none) hv dv) hb hz
      obtain ⟨-, -, -, -, s30, s31, -⟩ := co_cells hb' hm2
      have ff' := co_free hb'
      clear h hT hTL hTu hw hls hks hTs hTsL hTsu hu
      go_enter Try.func9, Try.ntmps9
      go_wp2_with fail
      (with_reducible refine (coNone_no g T.g _ q0).mono ?_)
      rintro e w1 ⟨rfl, rfl⟩
      go_wp2_with fail
      obtain ⟨W2, hW2⟩ : ∃ W, W = (((setBlk w g (coC (.pointer (some ⟨Ts.g, 0, none⟩)) s.cur s.ms (.string (tx c.last)) rv (.bool c.dirty) (.pointer (some ⟨gs, 0, none⟩)) (.pointer none) hv dv)).setCell ⟨g, 31, none⟩ (.pointer (some ⟨w.heap.size, 0, none⟩))).setCell ⟨g, 30, none⟩ (.bool true)).alloc (.cells (stC (.pointer (some ⟨T.g, 0, none⟩)) c.s.cur c.s.ms) 53) := ⟨_, rfl⟩
      have hfin := undo_fin HM.out HU.out HL.out hm2 _ hW2
      have HF := Lib.hid hfin.1
      have HC := Lib.hid hfin.2
      have hso : ∀ b, b < w.heap.size → ok b → ¬ K b := fun b _ hk e => HM.out.dis b e hk
      have HT2 : Hid (T.ok W2) := Lib.hid (by
        obtain ⟨T0, e0, h1, h2, h3⟩ := kI.lhChg HM.out.lines HC.out hso
        have hT0 := HT.out
        exact hT0.same fun b hb => HC.out.block b (hT0.lt b hb) (hso b (hT0.lt b hb) (HTU.out b hb)))
      have HTs2 : Hid (Ts.ok W2) := Lib.hid (HTs.out.same fun b hb => HC.out.block b (HTs.out.lt b hb) (hso b (HTs.out.lt b hb) (HTsU.out b hb)))
      obtain ⟨p0, -⟩ := co_cells HF.out.cells hm2
      rw [← hW2]
      clear hW2 hfin hso hb hb' hbs ff ff' q0 q29 q30 q33 q34 q32 q31 s30 s31 hz
      (with_reducible refine (len_ptr T _ HT2.out).mono ?_)
      rintro e w1 ⟨rfl, rfl⟩
      go_wp2_with fail
      (with_reducible refine (coN g Ts _ p0 HTs2.out).mono ?_)
      rintro e w1 ⟨rfl, rfl⟩
      go_wp2_with fail
      (with_reducible refine (coLines g Ts _ p0 HTs2.out _ rfl).mono ?_)
      rintro e w3 ⟨A3, c3, rfl, hL3, m3, rfl⟩
      have HL3 := Lib.hid hL3
      go_wp2_with fail
      go_ret2
      have hs2 := HC.out.size
      have hg3 : Grows W2 ((more W2 m3).alloc (.cells #[.int .i64 0, .int .i64 T.L.length, .slice A3 Ts.L.length c3] 24)) := by repeat' first | exact Grows.refl _ | refine Grows.more ?_ _ | refine Grows.alloc ?_ _
      refine ⟨some ⟨W2.heap.size + m3.bs.size, 0, none⟩, 1, [⟨0, T.L.length, A3, c3, Ts.L⟩], by rw [hV.out]; rfl, ?_, ?_, ?_, ?_, ?_, HC.out.trans (Chg.of_grows hg3)⟩
      · unfold undoL
        rw [hV.out, HTL.out]
        have := HTsL.out
        simp [Spx.v, this]
      · refine ⟨rfl, fun _ => ⟨_, 0, rfl, by simp, fun j u hj => ?_⟩⟩
        match j, hj with
        | 0, hj => simp [Spx.cells] at hj; subst hj; simp [go_sem]
        | 1, hj => simp [Spx.cells] at hj; subst hj; simp [go_sem]
        | 2, hj => simp [Spx.cells] at hj; subst hj; simp [go_sem]
        | j + 3, hj => simp [Spx.cells] at hj
      · intro a e
        cases e
        show w.heap.size ≤ W2.heap.size + m3.bs.size
        omega
      · intro x hx
        simp at hx
        subst hx
        exact (HL3.out.mono fun b _ hb => by omega).grows (by repeat' first | exact Grows.refl _ | refine Grows.alloc ?_ _)
      · rw [hV.out]
        exact (HF.out.grows hg3).at_
end
end Go.Proofs.Ythanghgfakibnaa
