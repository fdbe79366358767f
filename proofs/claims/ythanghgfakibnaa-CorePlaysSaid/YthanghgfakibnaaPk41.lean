/-
  Several texts of the proof: RegsPlay, CoreRef, CoreRefDo, CoreRefCh.
-/
import Derived.Test.YthanghgfakibnaaPk36
import Derived.Test.YthanghgfakibnaaPk29
/-
  Registers: the law RegsPlay.
-/
namespace Go.Proofs.Ythanghgfakibnaa
open Go.RowKit

/-- The document's registers without text, cell by cell. -/
def ZR : Array Value := (List.replicate 256 (Value.bool false) ++ (List.replicate 256 [Value.slice none 0 0, Value.bool false]).flatten).toArray
set_option maxRecDepth 3000 in
theorem zeroRef (w : World) : (zeroValue 105).run Try.prog w = .ok (.agg ZR) w := by kernel_rfl
set_option maxRecDepth 3000 in
theorem flat2 {α : Type} (a b : α) : ∀ n c, c < n → (List.replicate n [a, b]).flatten[c * 2]? = some a ∧ (List.replicate n [a, b]).flatten[c * 2 + 1]? = some b := by
  intro n
  induction n with
  | zero => intro c h; omega
  | succ n ih =>
    intro c h
    rw [List.replicate_succ, List.flatten_cons]
    cases c with
    | zero => simp
    | succ c =>
      have := ih c (by omega)
      rw [show (c + 1) * 2 = c * 2 + 2 by omega]
      simpa using this
set_option maxRecDepth 3000 in
theorem zr_has (n c : Nat) (h : c < n) : (List.replicate n (Value.bool false) ++ (List.replicate n [Value.slice none 0 0, Value.bool false]).flatten)[c]? = some (.bool false) := by
  rw [List.getElem?_append_left (by rw [List.length_replicate]; exact h), List.getElem?_replicate, if_pos h]
set_option maxRecDepth 3000 in
theorem zr_0 (n c : Nat) (h : c < n) : (List.replicate n (Value.bool false) ++ (List.replicate n [Value.slice none 0 0, Value.bool false]).flatten)[n + c * 2]? = some (.slice none 0 0) := by
  rw [List.getElem?_append_right (by rw [List.length_replicate]; omega), List.length_replicate, show n + c * 2 - n = c * 2 by omega]
  exact (flat2 _ _ n c h).1
set_option maxRecDepth 3000 in
theorem zr_1 (n c : Nat) (h : c < n) : (List.replicate n (Value.bool false) ++ (List.replicate n [Value.slice none 0 0, Value.bool false]).flatten)[n + c * 2 + 1]? = some (.bool false) := by
  rw [List.getElem?_append_right (by rw [List.length_replicate]; omega), List.length_replicate, show n + c * 2 + 1 - n = c * 2 + 1 by omega]
  exact (flat2 _ _ n c h).2
set_option maxRecDepth 3000 in
theorem ref_new {ok : Nat → Prop} (w : World) (t : TypeId) (zs : Array Value) (hz : zs = ZR) : RefIs ok (w.alloc (.cells zs t)) w.heap.size rs0 := by
  have hc : ∀ j, (w.alloc (.cells zs t)).cell? ⟨w.heap.size, j, none⟩ = zs[j]? := fun j => cell_of_row _ _ j zs t (0, 0) (World.alloc_heap_new _ _)
  have hz2 : ∀ j, zs[j]? = (List.replicate 256 (Value.bool false) ++ (List.replicate 256 [Value.slice none 0 0, Value.bool false]).flatten)[j]? := fun j => by rw [hz]; exact List.getElem?_toArray
  clear hz
  refine ⟨fun c h => ?_, fun c h => ⟨none, 0, ?_, ?_, ⟨Rd.nil_, by simp [rs0, rg0], by simp [rs0, rg0], by omega, by simp [rs0, rg0]⟩⟩, rgood0, by simp [go_sem], fun i => by simp [go_sem]⟩
  · rw [hc, hz2, zr_has 256 c h]; rfl
  · rw [hc, hz2, zr_0 256 c h]; rfl
  · rw [hc, hz2, zr_1 256 c h]; rfl
set_option maxRecDepth 3000 in
/-- The memory of what came in. -/
theorem lrd_in {w : World} {A : Option Addr} {cap : Nat} {d : List (List UInt8)} (h : Came w A cap d) : LRd (fun b => b < w.heap.size) w A cap d := ⟨h.rd, h.nil, h.le, h.cap63, fun hn a e => by
  obtain ⟨b, o, e2, hb, _⟩ := h.rd.2 hn
  rw [e] at e2
  cases e2
  exact hb⟩
set_option maxRecDepth 3000 in
theorem refSet_lit {ok okx : Nat → Prop} (g : Nat) (S : RS) (c : Int) (k : Nat) (hk : c = k) (A : Option Addr) (cap : Nat) (x : Rg) (w : World) (h : RefIs ok w g S) (hx : LRd okx w A cap x.d) (hf : x.fits) (hok : ∀ b, w.heap.size ≤ b → ok b) (hng : ¬ ok g) (hxg : ∀ b, okx b → ¬ b = g) (hk9 : k < 256) :
    Calls Try.prog 63 #[.pointer (some ⟨g, 0, none⟩), .int .u8 c, .agg #[.slice A x.d.length cap, .bool x.whole]] w (RefPut ok g (rset S c x) w) := by
  subst hk
  exact refSet_any g S k A cap x w h hx hf hok hng hxg hk9
set_option maxRecDepth 3000 in
theorem nnr2 (r g : Nat) : ¬ (fun b => ¬ b = r ∧ ¬ b = g) r := fun h => h.1 rfl
set_option maxRecDepth 3000 in
theorem nng2 (r g : Nat) : ¬ (fun b => ¬ b = r ∧ ¬ b = g) g := fun h => h.2 rfl
attribute [local go_sem ↓] zeroRef
end Go.Proofs.Ythanghgfakibnaa

/-
  Core: the document's buffer: Go, Mark, Begin, End, Abort, Back, New: walks.
-/
namespace Go.Proofs.Ythanghgfakibnaa
open Go.RowKit

/-! ### the registers, cloned -/
def rowC (w : World) (g : Nat) : List Value := (List.range 768).map fun i => (w.cell? ⟨g, i, none⟩).getD (.bool false)
def ldRegs (x : Value) : Sem Value := Instr.loadAt 105 x
set_option maxRecDepth 3000 in
theorem ldRegs_eq (x : Value) : Instr.loadAt 105 x = ldRegs x := rfl
set_option maxRecDepth 3000 in
theorem rowRegs : RowOf Try.prog 105 768 := ⟨_, Try.underlying105, rfl, by kernel_rfl⟩
section
variable (w : World) (g o : Nat) (c : Array Value)
def stRegs (x v : Value) : Sem Unit := Instr.storeAt 105 x v
set_option maxRecDepth 3000 in
theorem stRegs_eq (x v : Value) : Instr.storeAt 105 x v = stRegs x v := rfl
set_option maxRecDepth 3000 in
theorem storeRegs : (stRegs (.pointer (some ⟨g, o, none⟩)) (.agg c)).run Try.prog w = storePart Try.prog w 105 g o c := rfl
set_option maxRecDepth 3000 in
theorem storeRegs_if (h : OneCells c) : storePart Try.prog w 105 g o c = if 0 < 768 ∧ o + 768 ≤ (blk w g).size ∧ c.size = 768 then .ok () (setBlk w g (over (blk w g) o c)) else storePartOdd Try.prog w 105 g o c := storePart_if w _ g o 768 c rowRegs h
end
set_option maxRecDepth 3000 in
/-- The cells of registers, one by one. -/
theorem RefIs.row {ok : Nat → Prop} {w : World} {g : Nat} {S : RS} (h : RefIs ok w g S) : (ldRegs (.pointer (some ⟨g, 0, none⟩))).run Try.prog w = .ok (.agg (rowC w g).toArray) w ∧ OneCells (rowC w g).toArray ∧ (rowC w g).length = 768 ∧ ∀ i, i < 768 → (rowC w g)[i]? = w.cell? ⟨g, i, none⟩ := by
  have hs : (rowC w g).length = 768 := by simp [rowC]
  have hc : ∀ i, i < 768 → ∃ v, w.cell? ⟨g, i, none⟩ = some v ∧ v.oneCell' = true := by
    intro i hi
    by_cases h2 : i < 256
    · exact ⟨_, h.has i h2, rfl⟩
    · obtain ⟨A, cap, h3, h4, -⟩ := h.val ((i - 256) / 2) (by omega)
      by_cases h5 : i % 2 = 0
      · rw [show 256 + (i - 256) / 2 * 2 = i by omega] at h3; exact ⟨_, h3, rfl⟩
      · rw [show 256 + (i - 256) / 2 * 2 + 1 = i by omega] at h4; exact ⟨_, h4, rfl⟩
  have hv : ∀ i, i < 768 → (rowC w g)[i]? = w.cell? ⟨g, i, none⟩ := by
    intro i hi
    obtain ⟨v, h2, -⟩ := hc i hi
    rw [h2]
    simp [rowC, hi, h2]
  refine ⟨?_, ?_, hs, hv⟩
  · unfold ldRegs
    simp only [Instr.loadAt, Instr.sureAddr, Sem.run_bind, Sem.run_pure, Result.andThen_ok]
    obtain ⟨d, hu, hd, hi⟩ := rowRegs
    refine run_loadVar_cells w g 0 _ (rowC w g) d (fun j v hj => ?_) hu hd (by rw [hi, hs])
    have hj2 : j < 768 := by have := (List.getElem?_eq_some_iff.1 hj).1; omega
    rw [Nat.zero_add, ← hv j hj2]
    exact hj
  · unfold OneCells
    rw [Array.all_eq_true]
    intro i hi
    have hi2 : i < 768 := by simpa [hs] using hi
    obtain ⟨v, h2, h3⟩ := hc i hi2
    have h4 := hv i hi2
    rw [h2] at h4
    have : (rowC w g).toArray[i]? = some v := by rw [List.getElem?_toArray]; exact h4
    rw [Array.getElem?_eq_getElem hi] at this
    rw [Option.some.inj this]
    exact h3
set_option maxRecDepth 3000 in
theorem ref_clone {ok : Nat → Prop} {w : World} {g : Nat} {S : RS} (h : RefIs ok w g S) (t : TypeId) (c : Array Value) (hc : c = (rowC w g).toArray) : RefIs ok (w.alloc (.cells c t)) w.heap.size S := by
  obtain ⟨-, -, -, hv⟩ := h.row
  have hn : ∀ i, i < 768 → (w.alloc (.cells c t)).cell? ⟨w.heap.size, i, none⟩ = w.cell? ⟨g, i, none⟩ := fun i hi => (cell_of_row _ _ i c t (0, 0) (World.alloc_heap_new _ _)).trans (by rw [hc, List.getElem?_toArray]; exact hv i hi)
  refine ⟨fun c hk => (hn c (by omega)).trans (h.has c hk), fun c hk => ?_, h.good, by simp [go_sem], fun i => by simp [go_sem]⟩
  obtain ⟨A, cap, h1, h2, h3⟩ := h.val c hk
  exact ⟨A, cap, (hn _ (by omega)).trans h1, (hn _ (by omega)).trans h2, h3.grows ((Grows.refl _).alloc _)⟩
attribute [local go_sem ↓] ldRegs_eq stRegs_eq
attribute [local go_sem] storeRegs storeRegs_if
set_option maxRecDepth 3000 in
theorem over_self {a c : Array Value} (h : a.size = c.size) : over a 0 c = c := by
  apply Array.toList_inj.1
  have h1 : a.toList.length = c.size := by simpa using h
  simp [over, List.drop_of_length_le (Nat.le_of_eq h1)]
attribute [local go_sem ↓] zeroRef
set_option maxRecDepth 3000 in
theorem ZR_size : ZR.size = 768 := by kernel_rfl
set_option maxRecDepth 3000 in
set_option maxHeartbeats 1000000 in
theorem refClone_any {ok : Nat → Prop} (g : Nat) (S : RS) (w : World) (h : RefIs ok w g S) :
    Calls Try.prog 77 #[.pointer (some ⟨g, 0, none⟩)] w fun e w' => ∃ q, e = .returned (.pointer (some ⟨q, 0, none⟩)) ∧ w.heap.size ≤ q ∧ RefIs ok w' q S ∧ Grows w w' := by
  obtain ⟨h1, h2, h3, -⟩ := h.row
  have H := Lib.hid h
  have hb : InHeap g w := h.lt
  obtain ⟨C, hC⟩ : ∃ C, C = (rowC w g).toArray := ⟨_, rfl⟩
  have h3 : C.size = 768 := by rw [hC]; simpa using h3
  rw [← hC] at h1 h2
  have HC := Lib.hid hC
  have hov : over ZR 0 C = C := over_self (by rw [ZR_size, h3])
  have hz := ZR_size
  clear h hC
  go_enter Try.func77, Try.ntmps77
  go_wp2_with fail
  go_ret
  exact ⟨_, rfl, Nat.le_refl _, ref_clone H.out _ C HC.out, (Grows.refl _).alloc _⟩
end Go.Proofs.Ythanghgfakibnaa

/-
  Core: the document's buffer: Go, Mark, Begin, End, Abort, Back, New: walks.
-/
namespace Go.Proofs.Ythanghgfakibnaa
open Go.RowKit

section
variable {base : Nat} {ok K : Nat → Prop} {w : World} {g r r2 : Nat} {c : CoV} {tv rv uv wv hv dv : Value} {D : List Spx}
set_option maxRecDepth 3000 in
set_option maxHeartbeats 1000000 in
theorem refGo_any (h : CoreM kR base ok K w g c tv rv uv wv hv dv r r2 D) (line : Int) (hl : I64 line) :
    Calls Try.prog 61 #[.pointer (some ⟨g, 0, none⟩), .int .i64 line] w fun e w' => e = .returned (.int .i64 (coGo c line).2) ∧ Moved kR base ok K g w (coGo c line).1 w' := by
  have hb := h.cells
  obtain ⟨A, cap, rfl, hL⟩ := h.lines
  have hm := h.good.s.many
  obtain ⟨q0, q1, -⟩ := co_cells hb hm
  have ig := co_in hb
  have f1 := co_free hb 1
  have HM := Lib.hid h
  have HB := Lib.hid hb
  have HI := Lib.hid hl
  have hn : c.s.L.length ≤ 1000000 := by have := h.good.s.len; omega
  clear h hb hm hL hl
  by_cases h1 : line < 0
  · have hV : Hid (coGo c line = (c, 200)) := Lib.hid (by unfold coGo; rw [if_pos (.inl h1)])
    go_enter Try.func61, Try.ntmps61
    go_wp2_with fail
    go_ret
    exact ⟨by rw [hV.out]; rfl, by rw [hV.out]; exact HM.out.moved (Chg.refl _ _)⟩
  · by_cases h2 : (c.s.L.length : Int) < line
    · have hV : Hid (coGo c line = (c, 200)) := Lib.hid (by unfold coGo; rw [if_pos (.inr h2)])
      go_enter Try.func61, Try.ntmps61
      go_wp2_with fail
      go_ret
      exact ⟨by rw [hV.out]; rfl, by rw [hV.out]; exact HM.out.moved (Chg.refl _ _)⟩
    · have hV : Hid (coGo c line = ({ c with s := { c.s with cur := line } }, 0)) := Lib.hid (by unfold coGo; rw [if_neg]; exact fun h => h.elim h1 h2)
      have hG : Hid ((coGo c line).1.good) := Lib.hid HM.out.good.go
      go_enter Try.func61, Try.ntmps61
      go_wp2_with fail
      go_ret
      refine ⟨by rw [hV.out]; rfl, ?_⟩
      have hG := hG.out
      rw [hV.out] at hG ⊢
      exact (HM.out.self (c' := { c with s := { c.s with cur := line } }) (chg_one rfl) ((co_put HB.out (by simp [coC_size]) 1 _).trans (coC_set1 _ _ _ _ _ _ _ _ _ _ _ HM.out.good.s.many)) rfl rfl rfl rfl rfl hG).moved (chg_one HM.out.Kg)
/-! ### marks -/
attribute [local go_sem ↓] ldMarks_eq stMarks_eq zero23
attribute [local go_sem] loadMarks storeMarks loadMarks_if storeMarks_if coC_size coC_marks span_MA coC_overM over_Z length_ms26
set_option maxRecDepth 3000 in
theorem mark_finR {k : Kd} (h : CoreM k base ok K w g c tv rv uv wv hv dv r r2 D) {ms' : List Int} (hl : ms'.length = 26) {w' : World} (hG : (({ c with s := { c.s with ms := ms' } }, (0 : Int)) : CoV × Int).1.good) (hg : Grows (setBlk w g (coC tv c.s.cur ms' (.string (tx c.last)) rv (.bool c.dirty) uv wv hv dv)) w') :
    Moved k base ok K g w ({ c with s := { c.s with ms := ms' } }, (0 : Int)).1 w' := by
  have hz : 0 < (coC tv c.s.cur ms' (.string (tx c.last)) rv (.bool c.dirty) uv wv hv dv).size := by simp [coC_size]
  refine (h.self (c' := { c with s := { c.s with ms := ms' } }) ((chg_setBlk (K := fun b => b = g) rfl).trans (Chg.of_grows hg)) ?_ rfl rfl rfl rfl rfl hG).moved ((chg_setBlk h.Kg).trans (Chg.of_grows hg))
  exact blk_grows (Blk.get _ h.cells (by simp [coC_size])) hz hg
set_option maxRecDepth 3000 in
set_option maxHeartbeats 2000000 in
theorem refMark_any (h : CoreM kR base ok K w g c tv rv uv wv hv dv r r2 D) (letter line : Int) (h0 : 0 ≤ letter) (h1 : letter ≤ 255) :
    Calls Try.prog 62 #[.pointer (some ⟨g, 0, none⟩), .int .u8 letter, .int .i64 line] w fun e w' => e = .returned (.int .i64 (coMark c letter line).2) ∧ Moved kR base ok K g w (coMark c letter line).1 w' := by
  have hb := h.cells
  obtain ⟨A, cap, rfl, hL⟩ := h.lines
  have hm := h.good.s.many
  obtain ⟨q0, -⟩ := co_cells hb hm
  have ig := co_in hb
  have HM := Lib.hid h
  have hsl2 : (setV c.s.ms letter line c.s.L.length).1.length = 26 := setV_len hm letter line _
  have hV : Hid (coMark c letter line = if (setV c.s.ms letter line c.s.L.length).2 = 0 then ({ c with s := { c.s with ms := (setV c.s.ms letter line c.s.L.length).1 } }, 0) else (c, (setV c.s.ms letter line c.s.L.length).2)) := Lib.hid rfl
  have hG : Hid ((coMark c letter line).1.good) := Lib.hid HM.out.good.mark
  have hS : Hid (∀ w, Calls Try.prog 81 #[.agg (MA c.s.ms), .int .u8 letter, .int .i64 line, .int .i64 c.s.L.length] w fun e w' => e = .returned (.tuple #[.agg (MA (setV c.s.ms letter line c.s.L.length).1), .int .i64 (setV c.s.ms letter line c.s.L.length).2]) ∧ Grows w w') := Lib.hid (fun w => markRefSet_any c.s.ms letter line c.s.L.length w hm h0 h1)
  clear h hL
  generalize setV c.s.ms letter line c.s.L.length = y at *
  obtain ⟨ms', er⟩ := y
  have hsl2 : ms'.length = 26 := hsl2
  go_enter Try.func62, Try.ntmps62
  go_upto_region 1 with fail
  go_region_law (first
    | (go_simp; (with_reducible refine Calls.mono (hS.out _) ?_); rintro e w2 ⟨rfl, m2, rfl⟩; dsimp only))
  all_goals
    by_cases h2 : er = 0
    · subst h2
      go_wp2_with fail
      go_ret
      refine ⟨by rw [hV.out]; rfl, ?_⟩
      have hG := hG.out
      rw [hV.out] at hG ⊢
      exact mark_finR HM.out hsl2 hG (by repeat' first | exact Grows.refl _ | refine Grows.more ?_ _ | refine Grows.alloc ?_ _ | refine Grows.drew ?_)
    · go_wp2_with fail
      go_ret
      refine ⟨by rw [hV.out, if_neg h2]; rfl, ?_⟩
      rw [hV.out, if_neg h2]
      exact (HM.out.grows (by repeat' first | exact Grows.refl _ | refine Grows.more ?_ _ | refine Grows.alloc ?_ _ | refine Grows.drew ?_)).moved (Chg.of_grows (by repeat' first | exact Grows.refl _ | refine Grows.more ?_ _ | refine Grows.alloc ?_ _ | refine Grows.drew ?_))
end
end Go.Proofs.Ythanghgfakibnaa

/-
  Core: the document's buffer: Begin, End, Abort, Back: walks.
-/
namespace Go.Proofs.Ythanghgfakibnaa
open Go.RowKit

set_option maxRecDepth 3000 in
theorem zeroStateR (w : World) : (zeroValue 100).run Try.prog w = .ok (.agg (stC (.slice none 0 0) 0 zeros)) w := by kernel_rfl
set_option maxRecDepth 3000 in
theorem stC_onS (A : Option Addr) (n cap : Nat) (cur : Int) (ms : List Int) : OneCells (stC (.slice A n cap) cur ms) := stC_one _ _ _ rfl
attribute [local go_sem ↓] ldMarks_eq ldStateR_eq stMarks_eq stStateR_eq zeroStateR
attribute [local go_sem] loadMarks loadStateR storeMarks storeStateR loadMarks_if loadStateR_if storeMarks_if storeStateR_if coC_size stC_size coC_marks coC_state coC_overS over_St stC_all stC_onS
section
variable {base : Nat} {ok K : Nat → Prop} {w : World} {g r r2 : Nat} {c : CoV} {tv rv uv wv hv dv : Value} {D : List Spx}
set_option maxRecDepth 3000 in
theorem begin_finR {q : Nat} (h : CoreM kR base ok K w g c tv rv uv wv hv dv r r2 D) {w2 : World} (hgw : Grows w w2)
    (hsB : blk w2 w.heap.size = stC tv c.s.cur c.s.ms) (hb2 : blk w2 g = coC tv c.s.cur c.s.ms (.string (tx c.last)) rv (.bool c.dirty) uv wv hv dv)
    (hq : w.heap.size + 1 ≤ q) (hR : RefIs (fun b => ok b ∧ b < w.heap.size) w2 q c.regs) :
    Moved kR base ok K g w { c with was := some (c.s, c.regs), did := [] } (((w2.setCell ⟨g, 32, none⟩ (.pointer (some ⟨w.heap.size, 0, none⟩))).setCell ⟨g, 33, none⟩ (.pointer (some ⟨q, 0, none⟩))).setCell ⟨g, 34, none⟩ (.slice none 0 0)) := by
  have hm := h.good.s.many
  have hlt := h.lt h.Kg
  have hs2 := hgw.below.size
  have hc : Chg (fun b => b = g) w (((w2.setCell ⟨g, 32, none⟩ (.pointer (some ⟨w.heap.size, 0, none⟩))).setCell ⟨g, 33, none⟩ (.pointer (some ⟨q, 0, none⟩))).setCell ⟨g, 34, none⟩ (.slice none 0 0)) := (Chg.of_grows hgw).trans (chg_three _ _ _ rfl)
  have hcK := (Chg.of_grows (p := K) hgw).trans (chg_three (.pointer (some ⟨w.heap.size, 0, none⟩)) (.pointer (some ⟨q, 0, none⟩)) (.slice none 0 0) h.Kg)
  have ho : ∀ b, b < w.heap.size → (ok b ∧ ¬ b = q) → ¬ b = g := fun b _ hk e => h.dis g h.Kg (e ▸ hk.1)
  have hl : kR.LH (fun b => ok b ∧ ¬ b = q) _ tv c.s.L := kR.lhChg (kR.lhMono h.lines (ok' := fun b => ok b ∧ ¬ b = q) fun b hb hk => ⟨hk, by omega⟩) hc ho
  have hsz : w.heap.size < w2.heap.size := Blk.inHeap hsB (by simp [stC_size])
  refine (h.begun (r3 := q) hc (co_putT hb2 hm _ _ _) ⟨w.heap.size, _, rfl, ?_, hl, h.top _ (Nat.le_refl _), by omega⟩ ⟨rfl, ?_⟩ (by omega)).moved2 hcK (.inr (by omega))
  · rw [Chg.blk (chg_three (K := fun b => b = g) _ _ _ rfl) hsz (by omega)]
    exact hsB
  · exact RefIs.chg (p := fun b => b = g) (hR.mono fun b hb hk => ⟨hk.1, by omega⟩) (chg_three _ _ _ rfl) (by omega) fun b _ hk e => h.dis g h.Kg (e ▸ hk.1)
set_option maxRecDepth 3000 in
set_option maxHeartbeats 2000000 in
theorem refBegin_any (h : CoreM kR base ok K w g c tv rv uv wv hv dv r r2 D) :
    Calls Try.prog 56 #[.pointer (some ⟨g, 0, none⟩)] w fun e w' => e = .returned (.int .i64 (coBegin c).2) ∧ Moved kR base ok K g w (coBegin c).1 w' := by
  have hb := h.cells
  obtain ⟨A, cap, rfl, hL⟩ := h.lines
  obtain ⟨rfl, hR⟩ := h.regs
  have hm := h.good.s.many
  obtain ⟨q0, -, -, q29, -, -, q32, -, -⟩ := co_cells hb hm
  have ig := co_in hb
  have HM := Lib.hid h
  cases hw : c.was with
  | some y =>
    have hwa := h.was
    rw [hw] at hwa
    obtain ⟨⟨gs, t, rfl, -⟩, -⟩ := hwa
    have hV : Hid (coBegin c = (c, 2)) := Lib.hid (by unfold coBegin; rw [hw]; rfl)
    clear h hL hR hw hm hb
    go_enter Try.func56, Try.ntmps56
    go_wp2_with fail
    go_ret
    exact ⟨by rw [hV.out]; rfl, by rw [hV.out]; exact HM.out.moved (Chg.refl _ _)⟩
  | none =>
    have hwa := h.was
    rw [hw] at hwa
    obtain ⟨rfl, -⟩ := hwa
    have hV : Hid (coBegin c = ({ c with was := some (c.s, c.regs), did := [] }, 0)) := Lib.hid (by unfold coBegin; rw [hw]; rfl)
    have HR := Lib.hid (hR.mono (ok' := fun b => ok b ∧ b < w.heap.size) fun b hb hk => ⟨hk, hb⟩)
    clear h hL hR hw
    go_enter Try.func56, Try.ntmps56
    go_wp2_with fail
    (with_reducible refine (refClone_any r c.regs _ (HR.out.grows (by repeat' first | exact Grows.refl _ | refine Grows.more ?_ _ | refine Grows.alloc ?_ _))).mono ?_)
    rintro e w2 ⟨q, rfl, hq, hR3, hg⟩
    have hgw : Hid (Grows w w2) := Lib.hid (((Grows.refl _).alloc _).trans hg)
    have hsB : Hid (blk w2 w.heap.size = stC (.slice A c.s.L.length cap) c.s.cur c.s.ms) := Lib.hid (blk_grows (by simp [go_sem]) (by simp [stC_size]) hg)
    have hb2 := blk_grows hb (by simp [coC_size]) hgw.out
    have HB2 := Lib.hid hb2
    obtain ⟨-, -, -, -, -, -, s32, s33, s34⟩ := co_cells hb2 hm
    have ff := co_free hb2
    have ig2 := co_in hb2
    have HQ : Hid (w.heap.size + 1 ≤ q) := Lib.hid (by simp at hq; omega)
    have HR3 := Lib.hid hR3
    clear hg hq hR3 hb hb2 hm
    go_wp2_with fail
    go_ret
    refine ⟨by rw [hV.out]; rfl, ?_⟩
    rw [hV.out]
    exact begin_finR HM.out hgw.out hsB.out HB2.out HQ.out HR3.out
set_option maxRecDepth 3000 in
set_option maxHeartbeats 2000000 in
theorem refEnd_any (h : CoreM kR base ok K w g c tv rv uv wv hv dv r r2 D) :
    Calls Try.prog 58 #[.pointer (some ⟨g, 0, none⟩)] w (EndOut kR base ok K g w c) := by
  have hb := h.cells
  have hm := h.good.s.many
  obtain ⟨A, cap, rfl⟩ := own_form h.did
  obtain ⟨q0, -, -, -, q30, q31, q32, q33, q34⟩ := co_cells hb hm
  have ff := co_free hb
  have ig := co_in hb
  have HM := Lib.hid h
  cases hw : c.was with
  | none =>
    have hwa := h.was
    rw [hw] at hwa
    obtain ⟨rfl, -⟩ := hwa
    have hV : Hid (coEnd c = (c, [])) := Lib.hid (by unfold coEnd; rw [hw])
    clear h hm hb hw
    go_enter Try.func58, Try.ntmps58
    go_wp2_with fail
    go_ret
    exact ⟨none, 0, [], rfl, by rw [hV.out]; rfl, World.ownsRow_nil _ _ _ _, (fun s hs => by cases hs), (fun b e => by cases e), by rw [hV.out]; exact HM.out.at_, Chg.refl _ _⟩
  | some y =>
    have hwa := h.was
    rw [hw] at hwa
    obtain ⟨⟨gs, t, rfl, -⟩, -⟩ := hwa
    have hW := Lib.hid hw
    have HB := Lib.hid hb
    have hm2 := Lib.hid hm
    clear h hm hb hw
    by_cases h0 : 0 < D.length
    · have h0' : (0 : Int) < (D.length : Int) := by omega
      go_enter Try.func58, Try.ntmps58
      go_wp2_with fail
      go_ret
      exact end_fin (u := true) HM.out hW.out (((chg_one (K := fun b => b = g) rfl).trans (chg_one rfl)).trans (chg_three _ _ _ rfl)) (co_putT (co_putU HB.out hm2.out _ _) hm2.out _ _ _) rfl (by simp [h0])
    · have h0' : ¬ (0 : Int) < (D.length : Int) := by omega
      go_enter Try.func58, Try.ntmps58
      go_wp2_with fail
      go_ret
      exact end_fin (u := false) HM.out hW.out (chg_three _ _ _ rfl) (co_putT HB.out hm2.out _ _ _) rfl (by simp [h0])
set_option maxRecDepth 3000 in
set_option maxHeartbeats 2000000 in
theorem refAbort_any (h : CoreM kR base ok K w g c tv rv uv wv hv dv r r2 D) :
    Calls Try.prog 59 #[.pointer (some ⟨g, 0, none⟩)] w fun e w' => e = .returned (.tuple #[]) ∧ CoreAt kR base ok K w' g (coAbort c) ∧ Chg K w w' := by
  have hb := h.cells
  obtain ⟨A, cap, rfl, hL⟩ := h.lines
  have hm := h.good.s.many
  obtain ⟨q0, -, -, q29, q30, q31, q32, q33, q34⟩ := co_cells hb hm
  have ff := co_free hb
  have ig := co_in hb
  have HM := Lib.hid h
  cases hw : c.was with
  | none =>
    have hwa := h.was
    rw [hw] at hwa
    obtain ⟨rfl, -⟩ := hwa
    have hV : Hid (coAbort c = c) := Lib.hid (by unfold coAbort; rw [hw])
    clear h hL hm hb hw
    go_enter Try.func59, Try.ntmps59
    go_wp2_with fail
    exact bodyPost_end (v := .tuple #[]) (results_none rfl _ _ _) rfl ⟨rfl, by rw [hV.out]; exact HM.out.at_, Chg.refl _ _⟩
  | some y =>
    have hwa := h.was
    rw [hw] at hwa
    obtain ⟨⟨gs, t, rfl, hbs, hls, hks⟩, ⟨rfl, -⟩, -⟩ := hwa
    obtain ⟨A2, cap2, rfl, -⟩ := id hls
    have hm2 := (h.good.was y hw).many
    have hW := Lib.hid hw
    have igs : InHeap gs w := Blk.inHeap hbs (by simp [stC_size])
    have HL := Lib.hid hls
    have hz : 0 < (coC (.slice A c.s.L.length cap) c.s.cur c.s.ms (.string (tx c.last)) rv (.bool c.dirty) uv (.pointer (some ⟨gs, 0, none⟩)) (.pointer (some ⟨r2, 0, none⟩)) dv).size := by simp [coC_size]
    have hb' := Blk.get (coC (.slice A2 y.1.L.length cap2) y.1.cur y.1.ms (.string (tx c.last)) rv (.bool c.dirty) uv (.pointer (some ⟨gs, 0, none⟩)) (.pointer (some ⟨r2, 0, none⟩)) dv) hb hz
    obtain ⟨-, -, -, s29, -, -, s32, s33, s34⟩ := co_cells hb' hm2
    have ff' := co_free hb'
    have hV : Hid (coAbort c = { c with s := y.1, regs := y.2, was := none, did := [] }) := Lib.hid (by unfold coAbort; rw [hw])
    have hne : Hid (¬ gs = g) := Lib.hid (fun e => h.dis g h.Kg (e ▸ hks))
    clear h hL hw hls hks
    go_enter Try.func59, Try.ntmps59
    go_upto_region 1 with fail
    go_region_law (fail)
    all_goals
      go_wp2_with fail
      go_end0
      exact ⟨rfl, by rw [hV.out]; exact abort_fin HM.out hW.out HL.out hm2 (by repeat' first | exact Grows.refl _ | refine Grows.drew ?_)⟩
/-- Back behind the last change (the document's). -/
def BackOut (base : Nat) (ok K : Nat → Prop) (g : Nat) (w : World) (c : CoV) (e : Ending) (w' : World) : Prop := e = .returned (.int .i64 (coUndo c).2) ∧ CoreAt kR base ok K w' g (coUndo c).1 ∧ Chg K w w'
set_option maxRecDepth 3000 in
set_option maxHeartbeats 2000000 in
theorem refBack_any (h : CoreM kR base ok K w g c tv rv uv wv hv dv r r2 D) :
    Calls Try.prog 60 #[.pointer (some ⟨g, 0, none⟩)] w (BackOut base ok K g w c) := by
  have hb := h.cells
  obtain ⟨A, cap, rfl, hL⟩ := h.lines
  have hm := h.good.s.many
  obtain ⟨q0, -, -, q29, q30, q31, q32, q33, q34⟩ := co_cells hb hm
  have ff := co_free hb
  have ig := co_in hb
  have HM := Lib.hid h
  cases hw : c.was with
  | some y =>
    have hwa := h.was
    rw [hw] at hwa
    obtain ⟨⟨gs, t, rfl, -⟩, -⟩ := hwa
    have hV : Hid (coUndo c = (c, 2)) := Lib.hid (by unfold coUndo; rw [hw]; rfl)
    clear h hL hw hm hb
    go_enter Try.func60, Try.ntmps60
    go_wp2_with fail
    go_ret
    exact ⟨by rw [hV.out]; rfl, by rw [hV.out]; exact HM.out.at_, Chg.refl _ _⟩
  | none =>
    have hwa := h.was
    rw [hw] at hwa
    obtain ⟨rfl, -⟩ := hwa
    cases hu : c.undo with
    | none =>
      have hua := h.undo
      rw [hu] at hua
      obtain rfl := hua
      have hV : Hid (coUndo c = (c, 190)) := Lib.hid (by unfold coUndo; rw [hw, hu]; rfl)
      clear h hL hw hm hb hu
      go_enter Try.func60, Try.ntmps60
      go_wp2_with fail
      go_ret
      exact ⟨by rw [hV.out]; rfl, by rw [hV.out]; exact HM.out.at_, Chg.refl _ _⟩
    | some s =>
      have hua := h.undo
      rw [hu] at hua
      obtain ⟨gs, t, rfl, hbs, hls, hks⟩ := hua
      obtain ⟨A2, cap2, rfl, -⟩ := id hls
      have hm2 := (h.good.undo s hu).many
      have igs : InHeap gs w := Blk.inHeap hbs (by simp [stC_size])
      have hV : Hid (coUndo c = ({ c with s := s, undo := some c.s, dirty := true }, 0)) := Lib.hid (by unfold coUndo; rw [hw, hu]; rfl)
      have hne : ¬ gs = g := fun e => h.dis g h.Kg (e ▸ hks)
      have HU := Lib.hid hu
      have HL := Lib.hid hls
      have hlt : g < w.heap.size := h.lt h.Kg
      have hlt2 : ¬ w.heap.size = g := by omega
      have hz : 0 < (coC (.slice A c.s.L.length cap) c.s.cur c.s.ms (.string (tx c.last)) rv (.bool c.dirty) (.pointer (some ⟨gs, 0, none⟩)) (.pointer none) hv dv).size := by simp [coC_size]
      have hb' := Blk.get (coC (.slice A2 s.L.length cap2) s.cur s.ms (.string (tx c.last)) rv (.bool c.dirty) (.pointer (some ⟨gs, 0, none⟩)) (.pointer none) hv dv) hb hz
      obtain ⟨-, -, -, -, s30, s31, -⟩ := co_cells hb' hm2
      have ff' := co_free hb'
      clear h hL hw hls hks hu
      go_enter Try.func60, Try.ntmps60
      go_wp2_with fail
      go_ret
      refine ⟨by rw [hV.out]; rfl, ?_⟩
      rw [hV.out]
      have hfin := undo_fin HM.out HU.out HL.out hm2 100 rfl
      exact ⟨hfin.1.at_, hfin.2⟩
end
end Go.Proofs.Ythanghgfakibnaa
