/-
  Several texts of the proof: RegsRef, RegsRef2.
-/
import Derived.Test.YthanghgfakibnaaPk15
import Derived.Test.YthanghgfakibnaaPk08
/-
  Registers: the document's, in memory, and the walks of its small functions.
-/
namespace Go.Proofs.Ythanghgfakibnaa
open Go.RowKit
attribute [local go_sem ↓] zeroReg
set_option maxRecDepth 3000 in
theorem heap_setCell {w : World} {g i : Nat} {v : Value} : (w.setCell ⟨g, i, none⟩ v).heap[g]? = (w.heap[g]?).map fun o => match o with | .cells c e f => .cells (c.setIfInBounds i v) e f | o => o := by
  show (w.heap.modify g _)[g]? = _
  rw [Array.getElem?_modify, if_pos rfl]
  cases w.heap[g]? with
  | none => rfl
  | some o => cases o <;> simp
set_option maxRecDepth 3000 in
theorem cell_set_same {w : World} {g i : Nat} {v u : Value} (h : w.cell? ⟨g, i, none⟩ = some u) : (w.setCell ⟨g, i, none⟩ v).cell? ⟨g, i, none⟩ = some v := by
  unfold World.cell? at h ⊢
  simp only [heap_setCell]
  cases ho : w.heap[g]? with
  | none => simp [ho] at h
  | some o =>
    cases o with
    | cells c e f =>
      simp [ho] at h ⊢
      obtain ⟨hi, _⟩ := Array.getElem?_eq_some_iff.1 h
      simp [hi]
    | _ => simp [ho] at h
set_option maxRecDepth 3000 in
theorem cell_set_ne {w : World} {g i j : Nat} {v : Value} (h : ¬ i = j) : (w.setCell ⟨g, i, none⟩ v).cell? ⟨g, j, none⟩ = w.cell? ⟨g, j, none⟩ := by
  unfold World.cell?
  simp only [heap_setCell]
  cases ho : w.heap[g]? with
  | none => simp
  | some o =>
    cases o with
    | cells c e f => simp [h]
    | _ => simp
set_option maxRecDepth 3000 in
theorem frozen_set {w : World} {g i j : Nat} {v : Value} : (w.setCell ⟨g, i, none⟩ v).frozen? ⟨g, j, none⟩ = w.frozen? ⟨g, j, none⟩ := by
  unfold World.frozen?
  simp only [heap_setCell]
  cases ho : w.heap[g]? with
  | none => simp
  | some o => cases o <;> simp
set_option maxRecDepth 3000 in
theorem grown_none {w w' : World} (h : w.grownBy w' none) : Grows w w' := Grows.of_below ((Below.refl _ w).grown h (Nat.le_refl _) (fun k e => by cases e))
/-- The document's registers in block g. -/
structure RefIs (ok : Nat → Prop) (w : World) (g : Nat) (S : RS) : Prop where
  has : ∀ c : Nat, c < 256 → w.cell? ⟨g, c, none⟩ = some (.bool (S c).isSome)
  val : ∀ c : Nat, c < 256 → ∃ A cap, w.cell? ⟨g, 256 + c * 2, none⟩ = some (.slice A ((S c).getD rg0).d.length cap) ∧ w.cell? ⟨g, 256 + c * 2 + 1, none⟩ = some (.bool ((S c).getD rg0).whole) ∧ LRd ok w A cap ((S c).getD rg0).d
  good : RGood S
  lt : InHeap g w
  frozen : ∀ i, w.frozen? ⟨g, i, none⟩ = false
set_option maxRecDepth 3000 in
theorem RefIs.chg {ok p : Nat → Prop} {w w' : World} {g : Nat} {S : RS} (h : RefIs ok w g S) (hc : Chg p w w') (hg : ¬ p g) (ho : ∀ b, b < w.heap.size → ok b → ¬ p b) : RefIs ok w' g S := by
  refine ⟨fun c hk => (hc.cell (a := ⟨g, c, none⟩) h.lt hg).trans (h.has c hk), fun c hk => ?_, h.good, Nat.lt_of_lt_of_le h.lt hc.size, fun i => (hc.frozen (a := ⟨g, i, none⟩) h.lt hg).trans (h.frozen i)⟩
  obtain ⟨A, cap, h1, h2, h3⟩ := h.val c hk
  exact ⟨A, cap, (hc.cell (a := ⟨g, _, none⟩) h.lt hg).trans h1, (hc.cell (a := ⟨g, _, none⟩) h.lt hg).trans h2, h3.chg hc ho⟩
set_option maxRecDepth 3000 in
theorem RefIs.grows {ok : Nat → Prop} {w w' : World} {g : Nat} {S : RS} (h : RefIs ok w g S) (hg : Grows w w') : RefIs ok w' g S := h.chg (Chg.of_grows (p := fun _ => False) hg) (fun h => h) fun _ _ _ h => h
set_option maxRecDepth 3000 in
set_option maxHeartbeats 400000 in
theorem rcheckRef_any {ok : Nat → Prop} (A : Option Addr) (cap : Nat) (x : Rg) (w : World) (hx : LRd ok w A cap x.d) (hf : x.fits) :
    Calls Try.prog 82 #[.agg #[.slice A x.d.length cap, .bool x.whole]] w fun e w' => e = .returned (.bool (rcheck x)) ∧ Grows w w' := by
  have hr := hx.rd
  have hl := hf.len
  have he := Lib.hid hf.each
  by_cases h0 : 0 < x.d.length
  · have hV : Hid (rcheck x = (lcheckV x.d == 0)) := Lib.hid (by simp [rcheck, h0])
    go_enter Try.func82, Try.ntmps82
    go_wp2_with fail
    (with_reducible refine (refCheck_any A cap x.d _ (hr.grows ((Grows.refl _).alloc _)) (by omega) (fun s hs => by have := he.out s hs; omega)).mono ?_)
    rintro e w1 ⟨rfl, rfl⟩
    go_wp2_with fail
    go_ret
    exact ⟨by rw [hV.out]; rfl, (Grows.refl _).alloc _⟩
  · have hV : Hid (rcheck x = false) := Lib.hid (by simp [rcheck, h0])
    have h00 : x.d.length = 0 := by omega
    go_enter Try.func82, Try.ntmps82
    go_wp2_with fail
    go_ret
    exact ⟨by rw [hV.out]; rfl, (Grows.refl _).alloc _⟩
set_option maxRecDepth 3000 in
set_option maxHeartbeats 1000000 in
/-- put: text into a register. -/
theorem put_any {ok okx : Nat → Prop} (g : Nat) (S : RS) (k : Nat) (hk : k < 256) (A : Option Addr) (cap : Nat) (x : Rg) (w : World) (h : RefIs ok w g S) (hx : LRd okx w A cap x.d) (hc : rcheck x = true) (hok : ∀ b, w.heap.size ≤ b → ok b) (hng : ¬ ok g) (hxg : ∀ b, okx b → ¬ b = g) :
    Calls Try.prog 84 #[.pointer (some ⟨g, 0, none⟩), .int .u8 k, .agg #[.slice A x.d.length cap, .bool x.whole]] w fun e w' => e = .returned (.tuple #[]) ∧ Chg (fun b => b = g) w w' ∧ RefIs ok w' g (rsSet S k x) := by
  obtain ⟨i0, hi, hz0, hz1, hz2⟩ := info_parts infoStr
  have hb : InHeap g w := h.lt
  have hbl : g < w.heap.size := h.lt
  have hf := h.frozen
  obtain ⟨A0, cap0, q0, q1, -⟩ := h.val k hk
  have q2 := h.has k hk
  have hR := Lib.hid h
  have hX := Lib.hid hx
  have hl := (rcheck_fits hc).1
  have hC := Lib.hid hc
  have k0 : (0 : Int) ≤ (k : Int) := by omega
  have k1 : (k : Int) < 256 := by omega
  clear h hx hc
  go_enter Try.func84, Try.ntmps84
  go_wp2_with fail
  have hCh : Hid (Chg (fun b => b = g) w (w.setCell ⟨g, k, none⟩ (.bool true))) := Lib.hid (Chg.setCell (p := fun b => b = g) (a := ⟨g, k, none⟩) rfl _)
  have p0 : (w.setCell ⟨g, k, none⟩ (.bool true)).cell? ⟨g, 256 + k * 2, none⟩ = _ := (cell_set_ne (by omega)).trans q0
  have p1 : (w.setCell ⟨g, k, none⟩ (.bool true)).cell? ⟨g, 256 + k * 2 + 1, none⟩ = _ := (cell_set_ne (by omega)).trans q1
  have pf : ∀ i, (w.setCell ⟨g, k, none⟩ (.bool true)).frozen? ⟨g, i, none⟩ = false := fun i => frozen_set.trans (hf i)
  have hb1 : InHeap g (w.setCell ⟨g, k, none⟩ (.bool true)) := by simp [go_sem, hb]
  have hsz : (w.setCell ⟨g, k, none⟩ (.bool true)).heap.size = w.heap.size := by simp
  have hall : Hid (∀ j, (w.setCell ⟨g, k, none⟩ (.bool true)).cell? ⟨g, j, none⟩ = if j = k then some (.bool true) else w.cell? ⟨g, j, none⟩) := Lib.hid (fun j => by
    split
    · rename_i h; subst h; exact cell_set_same q2
    · rename_i h; exact cell_set_ne (fun e => h e.symm))
  have hX1 : Hid (LRd okx (w.setCell ⟨g, k, none⟩ (.bool true)) A cap x.d) := Lib.hid (hX.out.chg hCh.out fun b _ h => hxg b h)
  rw [← hsz]
  have hSZ := Lib.hid hsz
  generalize w.setCell ⟨g, k, none⟩ (.bool true) = W1 at *
  clear hsz
  go_region_held3 (fun w' => w'.cell? ⟨W1.heap.size, 0, none⟩ = some (.slice A x.d.length cap) ∧ w'.cell? ⟨W1.heap.size, 1, none⟩ = some (.bool x.whole))
    (first | (simp [go_sem]; done))
    (first | (refine step_append_rd _ (by rfl) (.const (.slice none 0 0)) (.tmp 14) 22 (by rfl) (W1.heap.size + 1) 9 i0 (.string ⟨#[]⟩) 16 Try.underlying22 hi hz0 hz1 hz2 (by rfl) (.slice none 0 0) 0 [] (by rfl) (World.ownsRow_nil _ _ _ _) A x.d.length cap (lv x.d) (by simp [Act.eval]) hX1.out.nil (hX1.out.rd.grows (by repeat' first | exact Grows.refl _ | refine Grows.more ?_ _ | refine Grows.alloc ?_ _ | refine Grows.drewN ?_ _ | refine Grows.drew ?_)) (lv_one _) (by unfold maxLen; omega) (by omega) (by simp) ?_; intro v1 w2 hown hgrow; obtain ⟨m2, rfl⟩ := grown_none hgrow; obtain ⟨A2, c2, rfl, hL⟩ := LRd.of_own (ok := fun b => W1.heap.size + 1 ≤ b) (d := x.d) (by simpa using hown) (fun b hb => hb)))
  obtain ⟨W2, hW2⟩ : ∃ W, W = (W1.setCell ⟨g, 256 + k * 2, none⟩ (.slice A2 x.d.length c2)).setCell ⟨g, 256 + k * 2 + 1, none⟩ (.bool x.whole) := ⟨_, rfl⟩
  have hch2 : Chg (fun b => b = g) W1 W2 := by
    rw [hW2]
    exact (Chg.setCell (p := fun b => b = g) (a := ⟨g, 256 + k * 2, none⟩) rfl _).trans (Chg.setCell (p := fun b => b = g) (a := ⟨g, 256 + k * 2 + 1, none⟩) rfl _)
  have hcell : ∀ j, W2.cell? ⟨g, j, none⟩ = if j = 256 + k * 2 + 1 then some (.bool x.whole) else if j = 256 + k * 2 then some (.slice A2 x.d.length c2) else W1.cell? ⟨g, j, none⟩ := by
    intro j
    rw [hW2]
    split
    · rename_i h; subst h; exact cell_set_same ((cell_set_ne (by omega)).trans p1)
    · rename_i h
      rw [cell_set_ne (fun e => h e.symm)]
      split
      · rename_i h2; subst h2; exact cell_set_same p0
      · rename_i h2; exact cell_set_ne (fun e => h2 e.symm)
  have hg2 : Grows W2 (more (W2.alloc (.cells #[.slice A x.d.length cap, .bool x.whole] 68)) m2) := by repeat' first | exact Grows.refl _ | refine Grows.more ?_ _ | refine Grows.alloc ?_ _
  have hfin : Chg (fun b => b = g) w (more (W2.alloc (.cells #[.slice A x.d.length cap, .bool x.whole] 68)) m2) := (hCh.out.trans hch2).trans (Chg.of_grows hg2)
  have hin2 : InHeap g W2 := Nat.lt_of_lt_of_le hb1 hch2.size
  have hLF : LRd ok (more (W2.alloc (.cells #[.slice A x.d.length cap, .bool x.whole] 68)) m2) A2 c2 x.d := by
    have h1 : Chg (fun b => b = g) (more (W1.alloc (.cells #[.slice A x.d.length cap, .bool x.whole] 68)) m2) (more (W2.alloc (.cells #[.slice A x.d.length cap, .bool x.whole] 68)) m2) := by
      have e : more (W2.alloc (.cells #[.slice A x.d.length cap, .bool x.whole] 68)) m2 = ((more (W1.alloc (.cells #[.slice A x.d.length cap, .bool x.whole] 68)) m2).setCell ⟨g, 256 + k * 2, none⟩ (.slice A2 x.d.length c2)).setCell ⟨g, 256 + k * 2 + 1, none⟩ (.bool x.whole) := by
        rw [hW2]
        simp [go_sem, hb1]
      rw [e]
      exact (Chg.setCell (p := fun b => b = g) (a := ⟨g, 256 + k * 2, none⟩) rfl _).trans (Chg.setCell (p := fun b => b = g) (a := ⟨g, 256 + k * 2 + 1, none⟩) rfl _)
    have hs1 := hSZ.out
    exact (LRd.chg (show LRd _ (more (W1.alloc _) m2) A2 c2 x.d from hL) h1 (fun b _ hb e => by have : g < W1.heap.size := hb1; omega)).mono fun b _ hb => hok b (by omega)
  rw [← hW2]
  generalize more (W2.alloc (.cells #[.slice A x.d.length cap, .bool x.whole] 68)) m2 = W3 at *
  have hc3 : ∀ j, W3.cell? ⟨g, j, none⟩ = if j = 256 + k * 2 + 1 then some (.bool x.whole) else if j = 256 + k * 2 then some (.slice A2 x.d.length c2) else if j = k then some (.bool true) else w.cell? ⟨g, j, none⟩ := fun j => by
    rw [(Chg.of_grows (p := fun _ => False) hg2).cell (a := ⟨g, j, none⟩) hin2 (fun h => h), hcell j, hall.out j]
  have hold : ∀ b, b < w.heap.size → ok b → ¬ b = g := fun b _ h e => hng (e ▸ h)
  refine bodyPost_end (v := .tuple #[]) (results_none rfl _ _ _) (by rfl) ⟨rfl, hfin, fun c hc => ?_, fun c hc => ?_, hR.out.good.set _ hC.out, Nat.lt_of_lt_of_le hbl hfin.size, fun i => ?_⟩
  · rw [hc3, if_neg (by omega), if_neg (by omega)]
    unfold rsSet
    by_cases h : c = k
    · subst h; rw [if_pos rfl, if_pos rfl]; rfl
    · rw [if_neg h, if_neg (by omega)]; exact hR.out.has c hc
  · unfold rsSet
    by_cases h : c = k
    · subst h
      rw [if_pos rfl]
      refine ⟨A2, c2, ?_, ?_, hLF⟩
      · rw [hc3, if_neg (by omega), if_pos rfl]; rfl
      · rw [hc3, if_pos rfl]; rfl
    · rw [if_neg (by omega)]
      obtain ⟨A4, c4, e1, e2, e3⟩ := hR.out.val c hc
      refine ⟨A4, c4, ?_, ?_, e3.chg hfin hold⟩
      · rw [hc3, if_neg (by omega), if_neg (by omega), if_neg (by omega)]; exact e1
      · rw [hc3, if_neg (by omega), if_neg (by omega), if_neg (by omega)]; exact e2
  · rw [(Chg.of_grows (p := fun _ => False) hg2).frozen (a := ⟨g, i, none⟩) hin2 (fun h => h)]
    rw [hW2, frozen_set, frozen_set]
    exact pf i
/-- What the document's Get answers. -/
def RefGet (ok : Nat → Prop) (x : Rg × Int) (w : World) (e : Ending) (w' : World) : Prop := ∃ A cap, e = .returned (.tuple #[.agg #[.slice A x.1.d.length cap, .bool x.1.whole], .int .i64 x.2]) ∧ LRd ok w' A cap x.1.d ∧ Grows w w'
end Go.Proofs.Ythanghgfakibnaa

/-
  Registers: the walks of the document's Get, Push.
-/
namespace Go.Proofs.Ythanghgfakibnaa
open Go.RowKit
attribute [local go_sem ↓] zeroReg
set_option maxRecDepth 3000 in
set_option maxHeartbeats 1000000 in
theorem refGet_up {ok : Nat → Prop} (g : Nat) (S : RS) (k j : Nat) (hj : j < 256) (w : World) (h : RefIs ok w g S) (h1 : 65 ≤ k) (h2 : k ≤ 90) (hk : j = k + 32) : Calls Try.prog 85 #[.pointer (some ⟨g, 0, none⟩), .int .u8 k] w (RefGet ok (match S j with | none => (rg0, 170) | some x => (x, 0)) w) := by
  have hb : InHeap g w := h.lt
  have q2 := h.has j hj
  obtain ⟨A, cap, q0, q1, hL⟩ := h.val j hj
  have j0 : (0 : Int) ≤ (j : Int) := by omega
  have j1 : (j : Int) < 256 := by omega
  have hw : IntKind.u8.wrap ((k : Int) + 32) = j := by rw [hk]; exact u8_wrap (by omega) (by omega)
  have k1 : (65 : Int) ≤ k := by omega
  have k2 : (k : Int) ≤ 90 := by omega
  clear hk
  cases hs : S j with
  | none =>
    rw [hs] at q2
    have q2 : w.cell? ⟨g, j, none⟩ = some (.bool false) := q2
    clear h hL
    go_enter Try.func85, Try.ntmps85
    go_wp2_with fail
    exact bodyPost_ret (v := .tuple #[.agg #[.slice none 0 0, .bool false], .int .i64 170]) (by simp [results, Try.results85, go_sem]) rfl ⟨none, 0, rfl, ⟨Rd.nil_, by simp [rg0], by simp [rg0], by omega, by simp [rg0]⟩, (by repeat' first | exact Grows.refl _ | refine Grows.more ?_ _ | refine Grows.alloc ?_ _ | refine Grows.drew ?_)⟩
  | some x =>
    rw [hs] at q2 q0 q1 hL
    have q2 : w.cell? ⟨g, j, none⟩ = some (.bool true) := q2
    have q0 : w.cell? ⟨g, 256 + j * 2, none⟩ = some (.slice A x.d.length cap) := q0
    have q1 : w.cell? ⟨g, 256 + j * 2 + 1, none⟩ = some (.bool x.whole) := q1
    have hL : Hid (LRd ok w A cap x.d) := Lib.hid hL
    clear h
    go_enter Try.func85, Try.ntmps85
    go_wp2_with fail
    exact bodyPost_ret (v := .tuple #[.agg #[.slice A x.d.length cap, .bool x.whole], .int .i64 0]) (by simp [results, Try.results85, go_sem]) rfl ⟨A, cap, rfl, hL.out.grows (by repeat' first | exact Grows.refl _ | refine Grows.more ?_ _ | refine Grows.alloc ?_ _ | refine Grows.drew ?_), (by repeat' first | exact Grows.refl _ | refine Grows.more ?_ _ | refine Grows.alloc ?_ _ | refine Grows.drew ?_)⟩
set_option maxRecDepth 3000 in
set_option maxHeartbeats 1000000 in
theorem refGet_low {ok : Nat → Prop} (g : Nat) (S : RS) (j : Nat) (hj : j < 256) (w : World) (h : RefIs ok w g S) (h1 : j < 65) : Calls Try.prog 85 #[.pointer (some ⟨g, 0, none⟩), .int .u8 j] w (RefGet ok (match S j with | none => (rg0, 170) | some x => (x, 0)) w) := by
  have hb : InHeap g w := h.lt
  have q2 := h.has j hj
  obtain ⟨A, cap, q0, q1, hL⟩ := h.val j hj
  have j0 : (0 : Int) ≤ (j : Int) := by omega
  have j1 : (j : Int) < 256 := by omega
  have k1 : ¬ (65 : Int) ≤ j := by omega
  cases hs : S j with
  | none =>
    rw [hs] at q2
    have q2 : w.cell? ⟨g, j, none⟩ = some (.bool false) := q2
    clear h hL
    go_enter Try.func85, Try.ntmps85
    go_wp2_with fail
    exact bodyPost_ret (v := .tuple #[.agg #[.slice none 0 0, .bool false], .int .i64 170]) (by simp [results, Try.results85, go_sem]) rfl ⟨none, 0, rfl, ⟨Rd.nil_, by simp [rg0], by simp [rg0], by omega, by simp [rg0]⟩, (by repeat' first | exact Grows.refl _ | refine Grows.more ?_ _ | refine Grows.alloc ?_ _ | refine Grows.drew ?_)⟩
  | some x =>
    rw [hs] at q2 q0 q1 hL
    have q2 : w.cell? ⟨g, j, none⟩ = some (.bool true) := q2
    have q0 : w.cell? ⟨g, 256 + j * 2, none⟩ = some (.slice A x.d.length cap) := q0
    have q1 : w.cell? ⟨g, 256 + j * 2 + 1, none⟩ = some (.bool x.whole) := q1
    have hL : Hid (LRd ok w A cap x.d) := Lib.hid hL
    clear h
    go_enter Try.func85, Try.ntmps85
    go_wp2_with fail
    exact bodyPost_ret (v := .tuple #[.agg #[.slice A x.d.length cap, .bool x.whole], .int .i64 0]) (by simp [results, Try.results85, go_sem]) rfl ⟨A, cap, rfl, hL.out.grows (by repeat' first | exact Grows.refl _ | refine Grows.more ?_ _ | refine Grows.alloc ?_ _ | refine Grows.drew ?_), (by repeat' first | exact Grows.refl _ | refine Grows.more ?_ _ | refine Grows.alloc ?_ _ | refine Grows.drew ?_)⟩
set_option maxRecDepth 3000 in
set_option maxHeartbeats 1000000 in
theorem refGet_high {ok : Nat → Prop} (g : Nat) (S : RS) (j : Nat) (hj : j < 256) (w : World) (h : RefIs ok w g S) (h1 : 90 < j) : Calls Try.prog 85 #[.pointer (some ⟨g, 0, none⟩), .int .u8 j] w (RefGet ok (match S j with | none => (rg0, 170) | some x => (x, 0)) w) := by
  have hb : InHeap g w := h.lt
  have q2 := h.has j hj
  obtain ⟨A, cap, q0, q1, hL⟩ := h.val j hj
  have j0 : (0 : Int) ≤ (j : Int) := by omega
  have j1 : (j : Int) < 256 := by omega
  have k1 : (65 : Int) ≤ j := by omega
  have k2 : ¬ (j : Int) ≤ 90 := by omega
  cases hs : S j with
  | none =>
    rw [hs] at q2
    have q2 : w.cell? ⟨g, j, none⟩ = some (.bool false) := q2
    clear h hL
    go_enter Try.func85, Try.ntmps85
    go_wp2_with fail
    exact bodyPost_ret (v := .tuple #[.agg #[.slice none 0 0, .bool false], .int .i64 170]) (by simp [results, Try.results85, go_sem]) rfl ⟨none, 0, rfl, ⟨Rd.nil_, by simp [rg0], by simp [rg0], by omega, by simp [rg0]⟩, (by repeat' first | exact Grows.refl _ | refine Grows.more ?_ _ | refine Grows.alloc ?_ _ | refine Grows.drew ?_)⟩
  | some x =>
    rw [hs] at q2 q0 q1 hL
    have q2 : w.cell? ⟨g, j, none⟩ = some (.bool true) := q2
    have q0 : w.cell? ⟨g, 256 + j * 2, none⟩ = some (.slice A x.d.length cap) := q0
    have q1 : w.cell? ⟨g, 256 + j * 2 + 1, none⟩ = some (.bool x.whole) := q1
    have hL : Hid (LRd ok w A cap x.d) := Lib.hid hL
    clear h
    go_enter Try.func85, Try.ntmps85
    go_wp2_with fail
    exact bodyPost_ret (v := .tuple #[.agg #[.slice A x.d.length cap, .bool x.whole], .int .i64 0]) (by simp [results, Try.results85, go_sem]) rfl ⟨A, cap, rfl, hL.out.grows (by repeat' first | exact Grows.refl _ | refine Grows.more ?_ _ | refine Grows.alloc ?_ _ | refine Grows.drew ?_), (by repeat' first | exact Grows.refl _ | refine Grows.more ?_ _ | refine Grows.alloc ?_ _ | refine Grows.drew ?_)⟩
set_option maxRecDepth 3000 in
theorem refGet_any {ok : Nat → Prop} (g : Nat) (S : RS) (k : Nat) (hk : k < 256) (w : World) (h : RefIs ok w g S) : Calls Try.prog 85 #[.pointer (some ⟨g, 0, none⟩), .int .u8 k] w (RefGet ok (rget S k) w) := by
  have key : ∀ j : Nat, ((j : Int) = if 65 ≤ (k : Int) ∧ (k : Int) ≤ 90 then (k : Int) + 32 else k) → rget S k = match S j with | none => (rg0, 170) | some x => (x, 0) := by
    intro j hj
    rw [hj]
    rfl
  by_cases h1 : k < 65
  · rw [key k (by rw [if_neg (by omega)])]
    exact refGet_low g S k hk w h h1
  · by_cases h2 : 90 < k
    · rw [key k (by rw [if_neg (by omega)])]
      exact refGet_high g S k hk w h h2
    · rw [key (k + 32) (by rw [if_pos (by omega)]; omega)]
      exact refGet_up g S k (k + 32) (by omega) w h (by omega) (by omega) rfl
/-- What the document's Set and Push do. -/
def RefPut (ok : Nat → Prop) (g : Nat) (x : RS × Int) (w : World) (e : Ending) (w' : World) : Prop := e = .returned (.int .i64 x.2) ∧ Chg (fun b => b = g) w w' ∧ RefIs ok w' g x.1
set_option maxRecDepth 3000 in
theorem put_lit {ok okx : Nat → Prop} (g : Nat) (S : RS) (k : Nat) (c : Int) (hk : c = k) (hc9 : k < 256) (A : Option Addr) (n cap : Nat) (b : Bool) (x : Rg) (hn : n = x.d.length) (hbb : b = x.whole) (w : World) (h : RefIs ok w g S) (hx : LRd okx w A cap x.d) (hc : rcheck x = true) (hok : ∀ b, w.heap.size ≤ b → ok b) (hng : ¬ ok g) (hxg : ∀ b, okx b → ¬ b = g) :
    Calls Try.prog 84 #[.pointer (some ⟨g, 0, none⟩), .int .u8 c, .agg #[.slice A n cap, .bool b]] w fun e w' => e = .returned (.tuple #[]) ∧ Chg (fun b => b = g) w w' ∧ RefIs ok w' g (rsSet S c x) := by
  subst hk hn hbb
  exact put_any g S k hc9 A cap x w h hx hc hok hng hxg
end Go.Proofs.Ythanghgfakibnaa
