/-
  Core: Go, Last, Clean, Mark: walks.
-/
import Derived.Test.YthanghgfakibnaaPk31
import Derived.Test.YthanghgfakibnaaPk26
namespace Go.Proofs.Ythanghgfakibnaa
open Go.RowKit

set_option maxRecDepth 3000 in
theorem co_put {w : World} {g : Nat} {c : Array Value} (hb : blk w g = c) (hz : 0 < c.size) (i : Nat) (v : Value) : blk (w.setCell ⟨g, i, none⟩ v) g = c.setIfInBounds i v := by
  rw [Blk.set hb hz, Blk.get _ hb hz]
set_option maxRecDepth 3000 in
theorem span_MA {ms : List Int} (h : ms.length = 26) : span (MA ms) 0 26 = MA ms := by
  apply Array.toList_inj.1
  simp only [span, List.drop_zero]
  exact List.take_of_length_le (by simp [MA, h])
set_option maxRecDepth 3000 in
theorem chg_one {w : World} {g i : Nat} {v : Value} {K : Nat → Prop} (hk : K g) : Chg K w (w.setCell ⟨g, i, none⟩ v) := Chg.setCell (p := K) (a := ⟨g, i, none⟩) hk v
set_option maxRecDepth 3000 in
theorem chg_setBlk {w : World} {g : Nat} {c : Array Value} {K : Nat → Prop} (hk : K g) : Chg K w (setBlk w g c) := by
  refine ⟨rfl, rfl, rfl, by simp, fun b _ hp => ?_⟩
  have hne : g ≠ b := fun e => hp (e ▸ hk)
  show (w.heap.modify g _)[b]? = w.heap[b]?
  rw [Array.getElem?_modify, if_neg hne]
section
variable {base : Nat} {ok K : Nat → Prop} {w : World} {g r r2 : Nat} {c : CoV} {tv rv uv wv hv dv : Value} {D : List Spx}
set_option maxRecDepth 3000 in
set_option maxHeartbeats 1000000 in
theorem go_any (h : CoreM kI base ok K w g c tv rv uv wv hv dv r r2 D) (line : Int) (hl : I64 line) :
    Calls Try.prog 18 #[.pointer (some ⟨g, 0, none⟩), .int .i64 line] w fun e w' => e = .returned (.int .i64 (coGo c line).2) ∧ Moved kI base ok K g w (coGo c line).1 w' := by
  have hb := h.cells
  obtain ⟨T, rfl, hT, hTL, -⟩ := h.lines
  have hm := h.good.s.many
  obtain ⟨q0, q1, -⟩ := co_cells hb hm
  have ig := co_in hb
  have f1 := co_free hb 1
  have HM := Lib.hid h
  have HB := Lib.hid hb
  have HT := Lib.hid hT
  have HL := Lib.hid hTL
  have HI := Lib.hid hl
  have hn : T.L.length ≤ 1000000 := hT.small
  clear h hb hm hT hTL hl
  by_cases h1 : line < 0
  · have hV : Hid (coGo c line = (c, 200)) := Lib.hid (by unfold coGo; rw [if_pos (.inl h1)])
    go_enter Try.func18, Try.ntmps18
    go_wp2_with fail
    (with_reducible refine (coNone_no g T.g _ q0).mono ?_)
    rintro e w1 ⟨rfl, rfl⟩
    go_wp2_with fail
    go_ret
    exact ⟨by rw [hV.out]; rfl, by rw [hV.out]; exact HM.out.moved (Chg.refl _ _)⟩
  · by_cases h2 : (T.L.length : Int) < line
    · have hV : Hid (coGo c line = (c, 200)) := Lib.hid (by unfold coGo; rw [if_pos (.inr (by rw [← HL.out]; exact h2))])
      go_enter Try.func18, Try.ntmps18
      go_wp2_with fail
      (with_reducible refine (coNone_no g T.g _ q0).mono ?_)
      rintro e w1 ⟨rfl, rfl⟩
      go_wp2_with fail
      (with_reducible refine (coN g T _ q0 HT.out).mono ?_)
      rintro e w1 ⟨rfl, rfl⟩
      go_wp2_with fail
      go_ret
      exact ⟨by rw [hV.out]; rfl, by rw [hV.out]; exact HM.out.moved (Chg.refl _ _)⟩
    · have hV : Hid (coGo c line = ({ c with s := { c.s with cur := line } }, 0)) := Lib.hid (by unfold coGo; rw [if_neg]; rw [← HL.out]; exact fun h => h.elim h1 h2)
      have hG : Hid ((coGo c line).1.good) := Lib.hid HM.out.good.go
      go_enter Try.func18, Try.ntmps18
      go_wp2_with fail
      (with_reducible refine (coNone_no g T.g _ q0).mono ?_)
      rintro e w1 ⟨rfl, rfl⟩
      go_wp2_with fail
      (with_reducible refine (coN g T _ q0 HT.out).mono ?_)
      rintro e w1 ⟨rfl, rfl⟩
      go_wp2_with fail
      go_ret
      refine ⟨by rw [hV.out]; rfl, ?_⟩
      have hG := hG.out
      rw [hV.out] at hG ⊢
      exact (HM.out.self (c' := { c with s := { c.s with cur := line } }) (chg_one rfl) ((co_put HB.out (by simp [coC_size]) 1 _).trans (coC_set1 _ _ _ _ _ _ _ _ _ _ _ HM.out.good.s.many)) rfl rfl rfl rfl rfl hG).moved (chg_one HM.out.Kg)
set_option maxRecDepth 3000 in
set_option maxHeartbeats 1000000 in
theorem last_any (h : CoreM kI base ok K w g c tv rv uv wv hv dv r r2 D) (re : List UInt8) :
    Calls Try.prog 11 #[.pointer (some ⟨g, 0, none⟩), .string (tx re)] w fun e w' => e = .returned (.tuple #[]) ∧ Moved kI base ok K g w { c with last := re } w' := by
  have hb := h.cells
  obtain ⟨T, rfl, hT, hTL, -⟩ := h.lines
  have hm := h.good.s.many
  obtain ⟨q0, -, q28, -⟩ := co_cells hb hm
  have ig := co_in hb
  have f1 := co_free hb 28
  have HM := Lib.hid h
  have HB := Lib.hid hb
  clear h hb hm hT hTL
  go_enter Try.func11, Try.ntmps11
  go_wp2_with fail
  (with_reducible refine (coNone_no g T.g _ q0).mono ?_)
  rintro e w1 ⟨rfl, rfl⟩
  go_wp2_with fail
  go_end0
  exact ⟨rfl, (HM.out.self (c' := { c with last := re }) (chg_one rfl) ((co_put HB.out (by simp [coC_size]) 28 _).trans (coC_set28 _ _ _ _ _ _ _ _ _ _ _ HM.out.good.s.many)) rfl rfl rfl rfl rfl ⟨HM.out.good.s, HM.out.good.undo, HM.out.good.was, HM.out.good.did⟩).moved (chg_one HM.out.Kg)⟩
set_option maxRecDepth 3000 in
set_option maxHeartbeats 1000000 in
theorem clean_any (h : CoreM kI base ok K w g c tv rv uv wv hv dv r r2 D) :
    Calls Try.prog 12 #[.pointer (some ⟨g, 0, none⟩)] w fun e w' => e = .returned (.tuple #[]) ∧ Moved kI base ok K g w { c with dirty := false } w' := by
  have hb := h.cells
  obtain ⟨T, rfl, hT, hTL, -⟩ := h.lines
  have hm := h.good.s.many
  obtain ⟨q0, -, -, -, q30, -⟩ := co_cells hb hm
  have ig := co_in hb
  have f1 := co_free hb 30
  have HM := Lib.hid h
  have HB := Lib.hid hb
  clear h hb hm hT hTL
  go_enter Try.func12, Try.ntmps12
  go_wp2_with fail
  (with_reducible refine (coNone_no g T.g _ q0).mono ?_)
  rintro e w1 ⟨rfl, rfl⟩
  go_wp2_with fail
  go_end0
  exact ⟨rfl, (HM.out.self (c' := { c with dirty := false }) (chg_one rfl) ((co_put HB.out (by simp [coC_size]) 30 _).trans (coC_set30 _ _ _ _ _ _ _ _ _ _ _ HM.out.good.s.many)) rfl rfl rfl rfl rfl ⟨HM.out.good.s, HM.out.good.undo, HM.out.good.was, HM.out.good.did⟩).moved (chg_one HM.out.Kg)⟩
attribute [local go_sem ↓] ldMarks_eq stMarks_eq zero23
attribute [local go_sem] loadMarks storeMarks loadMarks_if storeMarks_if coC_size coC_marks span_MA coC_overM length_ms26
set_option maxRecDepth 3000 in
theorem setV_len {ms : List Int} (h : ms.length = 26) (c l n : Int) : (setV ms c l n).1.length = 26 := by
  unfold setV
  repeat' split
  · rfl
  · rfl
  · simpa using h
set_option maxRecDepth 3000 in
theorem over_MA {a b : List Int} (ha : a.length = 26) (hb : b.length = 26) : over (MA a) 0 (MA b) = MA b := by
  apply Array.toList_inj.1
  simp [over, MA, ha, hb]
set_option maxRecDepth 3000 in
theorem over_Z {b : List Int} (hb : b.length = 26) : over (MA zeros) 0 (MA b) = MA b := over_MA rfl hb
attribute [local go_sem] over_Z
set_option maxRecDepth 3000 in
theorem CoreM.moved2' (h : CoreM kI base ok K w g c tv rv uv wv hv dv r r2 D) {w' : World} (hg : Grows w w') : Moved kI base ok K g w c w' := (h.grows hg).moved (Chg.of_grows hg)
set_option maxRecDepth 3000 in
theorem mark_fin (h : CoreM kI base ok K w g c tv rv uv wv hv dv r r2 D) {ms' : List Int} (hl : ms'.length = 26) {w' : World} (hG : (({ c with s := { c.s with ms := ms' } }, (0 : Int)) : CoV × Int).1.good) (hg : Grows (setBlk w g (coC tv c.s.cur ms' (.string (tx c.last)) rv (.bool c.dirty) uv wv hv dv)) w') :
    Moved kI base ok K g w ({ c with s := { c.s with ms := ms' } }, (0 : Int)).1 w' := by
  have hz : 0 < (coC tv c.s.cur ms' (.string (tx c.last)) rv (.bool c.dirty) uv wv hv dv).size := by simp [coC_size]
  refine (h.self (c' := { c with s := { c.s with ms := ms' } }) ((chg_setBlk (K := fun b => b = g) rfl).trans (Chg.of_grows hg)) ?_ rfl rfl rfl rfl rfl hG).moved ((chg_setBlk h.Kg).trans (Chg.of_grows hg))
  exact blk_grows (Blk.get _ h.cells (by simp [coC_size])) hz hg
set_option maxRecDepth 3000 in
theorem coN_q {T : Tbl} {m : More} (q0 : w.cell? ⟨g, 0, none⟩ = some (.pointer (some ⟨T.g, 0, none⟩))) (hT : T.ok w) : Calls Try.prog 14 #[.pointer (some ⟨g, 0, none⟩)] (more w m) fun e w'' => e = .returned (.int .i64 T.L.length) ∧ ∃ k, w'' = more w k :=
  calls_grows ((coN g T _ (cell_grows q0 (Grows.of _ _)) (hT.grows (Grows.of _ _))).mono fun e w' h => ⟨h.1, h.2 ▸ Grows.refl _⟩)
set_option maxRecDepth 3000 in
set_option maxHeartbeats 2000000 in
theorem mark_any (h : CoreM kI base ok K w g c tv rv uv wv hv dv r r2 D) (letter line : Int) (h0 : 0 ≤ letter) (h1 : letter ≤ 255) :
    Calls Try.prog 19 #[.pointer (some ⟨g, 0, none⟩), .int .u8 letter, .int .i64 line] w fun e w' => e = .returned (.int .i64 (coMark c letter line).2) ∧ Moved kI base ok K g w (coMark c letter line).1 w' := by
  have hb := h.cells
  obtain ⟨T, rfl, hT, hTL, -⟩ := h.lines
  have hm := h.good.s.many
  obtain ⟨q0, -⟩ := co_cells hb hm
  have ig := co_in hb
  have HM := Lib.hid h
  have HT := Lib.hid hT
  have hsl : ∀ l n, (setV c.s.ms l line n).1.length = 26 := fun l n => setV_len hm l line n
  have hV : Hid (coMark c letter line = if (setV c.s.ms letter line T.L.length).2 = 0 then ({ c with s := { c.s with ms := (setV c.s.ms letter line T.L.length).1 } }, 0) else (c, (setV c.s.ms letter line T.L.length).2)) := Lib.hid (by unfold coMark; rw [← hTL])
  have hG : Hid ((coMark c letter line).1.good) := Lib.hid HM.out.good.mark
  have hS : Hid (∀ w, Calls Try.prog 40 #[.agg (MA c.s.ms), .int .u8 letter, .int .i64 line, .int .i64 T.L.length] w fun e w' => e = .returned (.tuple #[.agg (MA (setV c.s.ms letter line T.L.length).1), .int .i64 (setV c.s.ms letter line T.L.length).2]) ∧ Grows w w') := Lib.hid (fun w => markSet_any c.s.ms letter line T.L.length w hm h0 h1)
  have hsl2 := hsl letter T.L.length
  clear h hT hTL hsl
  generalize setV c.s.ms letter line T.L.length = y at *
  obtain ⟨ms', er⟩ := y
  have hsl2 : ms'.length = 26 := hsl2
  go_enter Try.func19, Try.ntmps19
  go_wp2_with fail
  (with_reducible refine (coNone_no g T.g _ q0).mono ?_)
  rintro e w1 ⟨rfl, rfl⟩
  go_upto_region 3 with fail
  go_region_law (first
    | (go_simp; (with_reducible refine Calls.mono (coN g T _ (cell_grows q0 ?_) (HT.out.grows ?_)) ?_); (repeat' first | exact Grows.refl _ | refine Grows.more ?_ _ | refine Grows.alloc ?_ _ | refine Grows.drew ?_); rintro e w2 ⟨rfl, hw2⟩; have hw2 := hw2.symm; subst hw2; dsimp only)
    | (go_simp; (with_reducible refine Calls.mono (hS.out _) ?_); rintro e w2 ⟨rfl, m2, rfl⟩; dsimp only))
  all_goals
    by_cases h2 : er = 0
    · subst h2
      go_wp2_with fail
      go_ret
      refine ⟨by rw [hV.out]; rfl, ?_⟩
      have hG := hG.out
      rw [hV.out] at hG ⊢
      exact mark_fin HM.out hsl2 hG (by repeat' first | exact Grows.refl _ | refine Grows.more ?_ _ | refine Grows.alloc ?_ _ | refine Grows.drew ?_)
    · go_wp2_with fail
      go_ret
      refine ⟨by rw [hV.out, if_neg h2]; rfl, ?_⟩
      rw [hV.out, if_neg h2]
      exact HM.out.moved2' (by repeat' first | exact Grows.refl _ | refine Grows.more ?_ _ | refine Grows.alloc ?_ _ | refine Grows.drew ?_)
end
end Go.Proofs.Ythanghgfakibnaa
