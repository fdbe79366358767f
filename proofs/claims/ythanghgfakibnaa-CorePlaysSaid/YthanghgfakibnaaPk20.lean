/-
  Registers: the walk of the document's Set.
-/
import Derived.Test.YthanghgfakibnaaPk16
import Derived.Test.YthanghgfakibnaaPk18
import Derived.Test.YthanghgfakibnaaPk19
namespace Go.Proofs.Ythanghgfakibnaa
open Go.RowKit
attribute [local go_sem ↓] zeroReg
set_option maxRecDepth 3000 in
/-- The document's Join, whatever the texts. -/
theorem refJoin_any {ok ok' : Nat → Prop} (A B : Option Addr) (ca cb : Nat) (a b : Rg) (w : World) (ha : LRd ok w A ca a.d) (hb : LRd ok' w B cb b.d) (la : a.d.length ≤ 4000 ∧ ∀ s ∈ a.d, s.length ≤ 4000) (lb : b.d.length ≤ 4000 ∧ ∀ s ∈ b.d, s.length ≤ 4000) :
    Calls Try.prog 83 #[.agg #[.slice A a.d.length ca, .bool a.whole], .agg #[.slice B b.d.length cb, .bool b.whole]] w (NewReg (rjoin a b) w) := by
  obtain ⟨da, wa⟩ := a
  obtain ⟨db, wb⟩ := b
  simp only [] at ha hb la lb ⊢
  have hs : da.length + db.length ≤ 1000000 := by omega
  unfold rjoin
  simp only []
  by_cases h1 : da.length = 0
  · rw [if_pos (.inl h1)]
    cases wa
    · exact rjoinA_f A B ca cb da db wb w ha hb hs h1
    · exact rjoinA_t A B ca cb da db wb w ha hb hs h1
  · by_cases h2 : db.length = 0
    · rw [if_pos (.inr (.inl h2))]
      cases wa
      · exact rjoinB_f A B ca cb da db wb w ha hb hs h1 h2
      · exact rjoinB_t A B ca cb da db wb w ha hb hs h1 h2
    · cases wa
      · cases wb
        · rw [if_neg (by simp; exact ⟨fun h => h1 (by simp [h]), fun h => h2 (by simp [h])⟩)]
          obtain ⟨d0, x, rfl⟩ : ∃ d0 x, da = d0 ++ [x] := ⟨da.dropLast, da.getLast (fun h => h1 (by simp [h])), (List.dropLast_concat_getLast _).symm⟩
          cases db with
          | nil => exact absurd rfl h2
          | cons y d1 =>
            have hx := la.2 x (by simp)
            have hy := lb.2 y (by simp)
            have l1 := la.1
            have l2 := lb.1
            simp only [List.length_append, List.length_cons, List.length_nil, Nat.zero_add] at l1 l2
            have := rjoinD_any A B ca cb d0 d1 x y w ha hb (by omega) (by omega)
            rw [joinD_parts]
            simpa using this
        · rw [if_pos (by simp)]
          exact rjoinC_f A B ca cb da db w ha hb hs h1 h2
      · rw [if_pos (by simp)]
        exact rjoinC_t A B ca cb da db wb w ha hb hs h1 h2
set_option maxRecDepth 100000 in
set_option maxHeartbeats 2000000 in
theorem refSet_bad {ok okx : Nat → Prop} (g : Nat) (S : RS) (k : Nat) (A : Option Addr) (cap : Nat) (x : Rg) (w : World) (h : RefIs ok w g S) (hx : LRd okx w A cap x.d) (hf : x.fits) (hok : ∀ b, w.heap.size ≤ b → ok b) (hng : ¬ ok g) (hxg : ∀ b, okx b → ¬ b = g) (hc : rcheck x = false) :
    Calls Try.prog 63 #[.pointer (some ⟨g, 0, none⟩), .int .u8 (k : Int), .agg #[.slice A x.d.length cap, .bool x.whole]] w (RefPut ok g (S, 2) w) := by
  have hb : InHeap g w := h.lt
  have hbl : g < w.heap.size := h.lt
  have n0 : ¬ w.heap.size = g := by omega
  have hno : Hid (∀ b, ok b → ¬ b = g) := Lib.hid (fun b h e => hng (e ▸ h))
  have hR := Lib.hid h
  have hX := Lib.hid hx
  have hC := Lib.hid hc
  clear h hx
  go_enter Try.func63, Try.ntmps63
  go_wp2_with fail
  (with_reducible refine (rcheckRef_any A cap x _ (hX.out.grows (by repeat' first | exact Grows.refl _ | refine Grows.more ?_ _ | refine Grows.alloc ?_ _ | refine Grows.drew ?_)) hf).mono ?_)
  rw [hC.out]
  rintro e w1 ⟨rfl, m1, rfl⟩
  go_wp2_with fail
  go_ret
  exact ⟨rfl, Chg.of_grows (by repeat' first | exact Grows.refl _ | refine Grows.more ?_ _ | refine Grows.alloc ?_ _ | refine Grows.drew ?_), hR.out.grows (by repeat' first | exact Grows.refl _ | refine Grows.more ?_ _ | refine Grows.alloc ?_ _ | refine Grows.drew ?_)⟩
set_option maxRecDepth 100000 in
set_option maxHeartbeats 2000000 in
theorem refSet_zero {ok okx : Nat → Prop} (g : Nat) (S : RS) (A : Option Addr) (cap : Nat) (x : Rg) (w : World) (h : RefIs ok w g S) (hx : LRd okx w A cap x.d) (hf : x.fits) (hok : ∀ b, w.heap.size ≤ b → ok b) (hng : ¬ ok g) (hxg : ∀ b, okx b → ¬ b = g) (hc : rcheck x = true) :
    Calls Try.prog 63 #[.pointer (some ⟨g, 0, none⟩), .int .u8 0, .agg #[.slice A x.d.length cap, .bool x.whole]] w (RefPut ok g (rsSet S 0 x, 0) w) := by
  have hb : InHeap g w := h.lt
  have hbl : g < w.heap.size := h.lt
  have n0 : ¬ w.heap.size = g := by omega
  have hno : Hid (∀ b, ok b → ¬ b = g) := Lib.hid (fun b h e => hng (e ▸ h))
  have hR := Lib.hid h
  have hX := Lib.hid hx
  have hC := Lib.hid hc
  clear h hx
  go_enter Try.func63, Try.ntmps63
  go_wp2_with fail
  (with_reducible refine (rcheckRef_any A cap x _ (hX.out.grows (by repeat' first | exact Grows.refl _ | refine Grows.more ?_ _ | refine Grows.alloc ?_ _ | refine Grows.drew ?_)) hf).mono ?_)
  rw [hC.out]
  rintro e w1 ⟨rfl, m1, rfl⟩
  go_wp2_with fail
  (with_reducible refine (put_lit g _ 0 0 rfl (by omega) A _ cap _ x rfl rfl _ (hR.out.grows (by repeat' first | exact Grows.refl _ | refine Grows.more ?_ _ | refine Grows.alloc ?_ _ | refine Grows.drew ?_)) (hX.out.grows (by repeat' first | exact Grows.refl _ | refine Grows.more ?_ _ | refine Grows.alloc ?_ _ | refine Grows.drew ?_)) hC.out (fun b h => hok b (by first | exact h | (simp at h; omega))) hng hxg).mono ?_)
  rintro e w2 ⟨rfl, hc2, hr2⟩
  have hC2 : Hid (Chg (fun b => b = g) w w2) := Lib.hid ((Chg.of_grows (by repeat' first | exact Grows.refl _ | refine Grows.more ?_ _ | refine Grows.alloc ?_ _ | refine Grows.drew ?_)).trans hc2)
  have hR2 := Lib.hid hr2
  clear hc2 hr2
  go_wp2_with fail
  go_ret
  exact ⟨rfl, hC2.out, hR2.out⟩
set_option maxRecDepth 100000 in
set_option maxHeartbeats 2000000 in
theorem refSet_odd1 {ok okx : Nat → Prop} (g : Nat) (S : RS) (k : Nat) (A : Option Addr) (cap : Nat) (x : Rg) (w : World) (h : RefIs ok w g S) (hx : LRd okx w A cap x.d) (hf : x.fits) (hok : ∀ b, w.heap.size ≤ b → ok b) (hng : ¬ ok g) (hxg : ∀ b, okx b → ¬ b = g) (hc : rcheck x = true) (h1 : 0 < k) (h2 : k < 65) :
    Calls Try.prog 63 #[.pointer (some ⟨g, 0, none⟩), .int .u8 (k : Int), .agg #[.slice A x.d.length cap, .bool x.whole]] w (RefPut ok g (S, 170) w) := by
  have hb : InHeap g w := h.lt
  have hbl : g < w.heap.size := h.lt
  have n0 : ¬ w.heap.size = g := by omega
  have hno : Hid (∀ b, ok b → ¬ b = g) := Lib.hid (fun b h e => hng (e ▸ h))
  have hR := Lib.hid h
  have hX := Lib.hid hx
  have hC := Lib.hid hc
  have z0 : ((k : Int) != 0) = true := by rw [bne_iff_ne]; omega
  have k1 : ¬ (65 : Int) ≤ k := by omega
  have k3 : ¬ (97 : Int) ≤ k := by omega
  clear h hx
  go_enter Try.func63, Try.ntmps63
  go_wp2_with fail
  (with_reducible refine (rcheckRef_any A cap x _ (hX.out.grows (by repeat' first | exact Grows.refl _ | refine Grows.more ?_ _ | refine Grows.alloc ?_ _ | refine Grows.drew ?_)) hf).mono ?_)
  rw [hC.out]
  rintro e w1 ⟨rfl, m1, rfl⟩
  go_wp2_with fail
  go_ret
  exact ⟨rfl, Chg.of_grows (by repeat' first | exact Grows.refl _ | refine Grows.more ?_ _ | refine Grows.alloc ?_ _ | refine Grows.drew ?_), hR.out.grows (by repeat' first | exact Grows.refl _ | refine Grows.more ?_ _ | refine Grows.alloc ?_ _ | refine Grows.drew ?_)⟩
set_option maxRecDepth 100000 in
set_option maxHeartbeats 2000000 in
theorem refSet_odd2 {ok okx : Nat → Prop} (g : Nat) (S : RS) (k : Nat) (A : Option Addr) (cap : Nat) (x : Rg) (w : World) (h : RefIs ok w g S) (hx : LRd okx w A cap x.d) (hf : x.fits) (hok : ∀ b, w.heap.size ≤ b → ok b) (hng : ¬ ok g) (hxg : ∀ b, okx b → ¬ b = g) (hc : rcheck x = true) (h1 : 90 < k) (h2 : k < 97) :
    Calls Try.prog 63 #[.pointer (some ⟨g, 0, none⟩), .int .u8 (k : Int), .agg #[.slice A x.d.length cap, .bool x.whole]] w (RefPut ok g (S, 170) w) := by
  have hb : InHeap g w := h.lt
  have hbl : g < w.heap.size := h.lt
  have n0 : ¬ w.heap.size = g := by omega
  have hno : Hid (∀ b, ok b → ¬ b = g) := Lib.hid (fun b h e => hng (e ▸ h))
  have hR := Lib.hid h
  have hX := Lib.hid hx
  have hC := Lib.hid hc
  have z0 : ((k : Int) != 0) = true := by rw [bne_iff_ne]; omega
  have k1 : (65 : Int) ≤ k := by omega
  have k2 : ¬ (k : Int) ≤ 90 := by omega
  have k2d : decide ((k : Int) ≤ 90) = false := decide_eq_false k2
  have k3 : ¬ (97 : Int) ≤ k := by omega
  clear h hx
  go_enter Try.func63, Try.ntmps63
  go_wp2_with fail
  (with_reducible refine (rcheckRef_any A cap x _ (hX.out.grows (by repeat' first | exact Grows.refl _ | refine Grows.more ?_ _ | refine Grows.alloc ?_ _ | refine Grows.drew ?_)) hf).mono ?_)
  rw [hC.out]
  rintro e w1 ⟨rfl, m1, rfl⟩
  go_wp2_with fail
  go_ret
  exact ⟨rfl, Chg.of_grows (by repeat' first | exact Grows.refl _ | refine Grows.more ?_ _ | refine Grows.alloc ?_ _ | refine Grows.drew ?_), hR.out.grows (by repeat' first | exact Grows.refl _ | refine Grows.more ?_ _ | refine Grows.alloc ?_ _ | refine Grows.drew ?_)⟩
set_option maxRecDepth 100000 in
set_option maxHeartbeats 2000000 in
theorem refSet_odd3 {ok okx : Nat → Prop} (g : Nat) (S : RS) (k : Nat) (A : Option Addr) (cap : Nat) (x : Rg) (w : World) (h : RefIs ok w g S) (hx : LRd okx w A cap x.d) (hf : x.fits) (hok : ∀ b, w.heap.size ≤ b → ok b) (hng : ¬ ok g) (hxg : ∀ b, okx b → ¬ b = g) (hc : rcheck x = true) (h1 : 122 < k) :
    Calls Try.prog 63 #[.pointer (some ⟨g, 0, none⟩), .int .u8 (k : Int), .agg #[.slice A x.d.length cap, .bool x.whole]] w (RefPut ok g (S, 170) w) := by
  have hb : InHeap g w := h.lt
  have hbl : g < w.heap.size := h.lt
  have n0 : ¬ w.heap.size = g := by omega
  have hno : Hid (∀ b, ok b → ¬ b = g) := Lib.hid (fun b h e => hng (e ▸ h))
  have hR := Lib.hid h
  have hX := Lib.hid hx
  have hC := Lib.hid hc
  have z0 : ((k : Int) != 0) = true := by rw [bne_iff_ne]; omega
  have k1 : (65 : Int) ≤ k := by omega
  have k2 : ¬ (k : Int) ≤ 90 := by omega
  have k2d : decide ((k : Int) ≤ 90) = false := decide_eq_false k2
  have k3 : (97 : Int) ≤ k := by omega
  have k4 : ¬ (k : Int) ≤ 122 := by omega
  have k4d : decide ((k : Int) ≤ 122) = false := decide_eq_false k4
  clear h hx
  go_enter Try.func63, Try.ntmps63
  go_wp2_with fail
  (with_reducible refine (rcheckRef_any A cap x _ (hX.out.grows (by repeat' first | exact Grows.refl _ | refine Grows.more ?_ _ | refine Grows.alloc ?_ _ | refine Grows.drew ?_)) hf).mono ?_)
  rw [hC.out]
  rintro e w1 ⟨rfl, m1, rfl⟩
  go_wp2_with fail
  go_ret
  exact ⟨rfl, Chg.of_grows (by repeat' first | exact Grows.refl _ | refine Grows.more ?_ _ | refine Grows.alloc ?_ _ | refine Grows.drew ?_), hR.out.grows (by repeat' first | exact Grows.refl _ | refine Grows.more ?_ _ | refine Grows.alloc ?_ _ | refine Grows.drew ?_)⟩
set_option maxRecDepth 100000 in
set_option maxHeartbeats 2000000 in
theorem refSet_small {ok okx : Nat → Prop} (g : Nat) (S : RS) (k : Nat) (A : Option Addr) (cap : Nat) (x : Rg) (w : World) (h : RefIs ok w g S) (hx : LRd okx w A cap x.d) (hf : x.fits) (hok : ∀ b, w.heap.size ≤ b → ok b) (hng : ¬ ok g) (hxg : ∀ b, okx b → ¬ b = g) (hc : rcheck x = true) (h1 : 97 ≤ k) (h2 : k ≤ 122) :
    Calls Try.prog 63 #[.pointer (some ⟨g, 0, none⟩), .int .u8 (k : Int), .agg #[.slice A x.d.length cap, .bool x.whole]] w (RefPut ok g (rsSet (rsSet S k x) 0 x, 0) w) := by
  have hb : InHeap g w := h.lt
  have hbl : g < w.heap.size := h.lt
  have n0 : ¬ w.heap.size = g := by omega
  have hno : Hid (∀ b, ok b → ¬ b = g) := Lib.hid (fun b h e => hng (e ▸ h))
  have hR := Lib.hid h
  have hX := Lib.hid hx
  have hC := Lib.hid hc
  have z0 : ((k : Int) != 0) = true := by rw [bne_iff_ne]; omega
  have k1 : (65 : Int) ≤ k := by omega
  have k2 : ¬ (k : Int) ≤ 90 := by omega
  have k2d : decide ((k : Int) ≤ 90) = false := decide_eq_false k2
  have k3 : (97 : Int) ≤ k := by omega
  have k4 : (k : Int) ≤ 122 := by omega
  clear h hx
  go_enter Try.func63, Try.ntmps63
  go_wp2_with fail
  (with_reducible refine (rcheckRef_any A cap x _ (hX.out.grows (by repeat' first | exact Grows.refl _ | refine Grows.more ?_ _ | refine Grows.alloc ?_ _ | refine Grows.drew ?_)) hf).mono ?_)
  rw [hC.out]
  rintro e w1 ⟨rfl, m1, rfl⟩
  go_wp2_with fail
  have hW : Hid (InHeap w.heap.size (more (w.alloc (.cells #[.slice A x.d.length cap, .bool x.whole] 68)) m1)) := Lib.hid (by simp [go_sem])
  (with_reducible refine (put_lit g _ k _ rfl (by omega) A _ cap _ x rfl rfl _ (hR.out.grows (by repeat' first | exact Grows.refl _ | refine Grows.more ?_ _ | refine Grows.alloc ?_ _ | refine Grows.drew ?_)) (hX.out.grows (by repeat' first | exact Grows.refl _ | refine Grows.more ?_ _ | refine Grows.alloc ?_ _ | refine Grows.drew ?_)) hC.out (fun b h => hok b (by first | exact h | (simp at h; omega))) hng hxg).mono ?_)
  rintro e w2 ⟨rfl, hc2, hr2⟩
  have e0 : w2.cell? ⟨w.heap.size, 0, none⟩ = some (.slice A x.d.length cap) := (hc2.cell (a := ⟨w.heap.size, 0, none⟩) hW.out n0).trans (by simp [go_sem])
  have e1 : w2.cell? ⟨w.heap.size, 1, none⟩ = some (.bool x.whole) := (hc2.cell (a := ⟨w.heap.size, 1, none⟩) hW.out n0).trans (by simp [go_sem])
  have hsz2 : Hid (w.heap.size ≤ w2.heap.size) := Lib.hid (by have := hc2.size; simp at this; omega)
  have hX2 : Hid (LRd okx w2 A cap x.d) := Lib.hid ((hX.out.grows (by repeat' first | exact Grows.refl _ | refine Grows.more ?_ _ | refine Grows.alloc ?_ _ | refine Grows.drew ?_)).chg hc2 (fun b _ ho => hxg b ho))
  have hC2 : Hid (Chg (fun b => b = g) w w2) := Lib.hid ((Chg.of_grows (by repeat' first | exact Grows.refl _ | refine Grows.more ?_ _ | refine Grows.alloc ?_ _ | refine Grows.drew ?_)).trans hc2)
  have hR2 := Lib.hid hr2
  clear hc2 hr2
  go_wp2_with fail
  (with_reducible refine (put_lit g _ 0 0 rfl (by omega) A _ cap _ x rfl rfl _ hR2.out hX2.out hC.out (fun b h => hok b (Nat.le_trans hsz2.out h)) hng hxg).mono ?_)
  rintro e w3 ⟨rfl, hc3, hr3⟩
  have hC3 := Lib.hid (hC2.out.trans hc3)
  have hR3 := Lib.hid hr3
  clear hc3 hr3
  go_wp2_with fail
  go_ret
  exact ⟨rfl, hC3.out, hR3.out⟩
set_option maxRecDepth 100000 in
set_option maxHeartbeats 2000000 in
theorem refSet_long {ok okx : Nat → Prop} (g : Nat) (S : RS) (k : Nat) (A : Option Addr) (cap : Nat) (x : Rg) (w : World) (h : RefIs ok w g S) (hx : LRd okx w A cap x.d) (hf : x.fits) (hok : ∀ b, w.heap.size ≤ b → ok b) (hng : ¬ ok g) (hxg : ∀ b, okx b → ¬ b = g) (j : Nat) (hk : (j : Int) = k + 32) (hc : rcheck x = true) (h1 : 65 ≤ k) (h2 : k ≤ 90) (hcy : rcheck (rjoin ((S j).getD rg0) x) = false) :
    Calls Try.prog 63 #[.pointer (some ⟨g, 0, none⟩), .int .u8 (k : Int), .agg #[.slice A x.d.length cap, .bool x.whole]] w (RefPut ok g (S, 3) w) := by
  have hb : InHeap g w := h.lt
  have hbl : g < w.heap.size := h.lt
  have n0 : ¬ w.heap.size = g := by omega
  have hno : Hid (∀ b, ok b → ¬ b = g) := Lib.hid (fun b h e => hng (e ▸ h))
  have hR := Lib.hid h
  have hX := Lib.hid hx
  have hC := Lib.hid hc
  have z0 : ((k : Int) != 0) = true := by rw [bne_iff_ne]; omega
  have k1 : (65 : Int) ≤ k := by omega
  have k2 : (k : Int) ≤ 90 := by omega
  have hw : IntKind.u8.wrap ((k : Int) + 32) = j := by rw [hk]; exact u8_wrap (by omega) (by omega)
  have k3 : ¬ (97 : Int) ≤ k := by omega
  have j0 : (0 : Int) ≤ (j : Int) := by omega
  have j1 : (j : Int) < 256 := by omega
  have hj9 : j < 256 := by omega
  have hgd := h.good.getD j
  have hfj := rjoin_fits _ _ hgd (rcheck_fits hc)
  have hfx : x.d.length ≤ 4000 ∧ ∀ s ∈ x.d, s.length ≤ 4000 := ⟨hf.len, hf.each⟩
  have hfy : ((S j).getD rg0).d.length ≤ 4000 ∧ ∀ s ∈ ((S j).getD rg0).d, s.length ≤ 4000 := ⟨by have := hgd.1; omega, fun s hs => by have := hgd.2 s hs; omega⟩
  obtain ⟨Ay, cy, q0, q1, hLy⟩ := h.val j hj9
  clear hgd
  generalize hy0 : (S j).getD rg0 = y0 at *
  have hLy := Lib.hid hLy
  have hY := Lib.hid hcy
  have hyx : Hid ((rjoin y0 x).fits) := Lib.hid hfj
  have hxw : Hid (∀ b, w.heap.size ≤ b → ¬ b = g) := Lib.hid (fun b h e => by omega)
  clear hcy hfj hk
  clear h hx
  go_enter Try.func63, Try.ntmps63
  go_wp2_with fail
  (with_reducible refine (rcheckRef_any A cap x _ (hX.out.grows (by repeat' first | exact Grows.refl _ | refine Grows.more ?_ _ | refine Grows.alloc ?_ _ | refine Grows.drew ?_)) hf).mono ?_)
  rw [hC.out]
  rintro e w1 ⟨rfl, m1, rfl⟩
  go_wp2_with fail
  go_region_held3 (fun w' => w'.cell? ⟨g, 256 + j * 2, none⟩ = some (.slice Ay y0.d.length cy) ∧ w'.cell? ⟨g, 256 + j * 2 + 1, none⟩ = some (.bool y0.whole) ∧ w'.cell? ⟨w.heap.size, 0, none⟩ = some (.slice A x.d.length cap) ∧ w'.cell? ⟨w.heap.size, 1, none⟩ = some (.bool x.whole))
    (first | (simp [go_sem, hb, q0, q1]; done))
    (first | (go_at_call 83; (refine Calls.mono (refJoin_any Ay A cy cap y0 x _ (hLy.out.grows ?_) (hX.out.grows ?_) hfy hfx) ?_); (repeat' first | exact Grows.refl _ | refine Grows.more ?_ _ | refine Grows.alloc ?_ _ | refine Grows.drew ?_); rintro e w2 ⟨A2, c2, rfl, hJ, m2, rfl⟩))
  all_goals
    first
    | (have hJ1 : LRd _ (more (more (w.alloc (.cells #[.slice A x.d.length cap, .bool x.whole] 68)) ⟨m1.bs, m1.n + 1⟩) m2) A2 c2 (rjoin y0 x).d := hJ
       have hJ2 : Hid (LRd (fun b => w.heap.size ≤ b) ((more (more (w.alloc (.cells #[.slice A x.d.length cap, .bool x.whole] 68)) ⟨m1.bs, m1.n + 1⟩) m2).alloc (.cells #[.slice A2 (rjoin y0 x).d.length c2, .bool (rjoin y0 x).whole] 68)) A2 c2 (rjoin y0 x).d) := Lib.hid ((hJ1.grows (by repeat' first | exact Grows.refl _ | refine Grows.more ?_ _ | refine Grows.alloc ?_ _ | refine Grows.drew ?_)).mono (fun b _ hb => (by simp at hb; omega : w.heap.size ≤ b))))
    | have hJ2 : Hid (LRd (fun b => w.heap.size ≤ b) (more ((more (w.alloc (.cells #[.slice A x.d.length cap, .bool x.whole] 68)) ⟨m1.bs, m1.n + 1⟩).alloc (.cells #[.slice A2 (rjoin y0 x).d.length c2, .bool (rjoin y0 x).whole] 68)) m2) A2 c2 (rjoin y0 x).d) := Lib.hid ((hJ.chg (chg_box _ _ _) (fun b _ hb hp => by simp at hb hp; omega)).mono (fun b _ hb => (by simp at hb; omega : w.heap.size ≤ b)))
    go_wp2_with fail
    (with_reducible refine (rcheckRef_any A2 c2 (rjoin y0 x) _ hJ2.out hyx.out).mono ?_)
    rw [hY.out]
    rintro e w1 ⟨rfl, m3, rfl⟩
    go_wp2_with fail
    go_ret
    exact ⟨rfl, Chg.of_grows (by repeat' first | exact Grows.refl _ | refine Grows.more ?_ _ | refine Grows.alloc ?_ _ | refine Grows.drew ?_), hR.out.grows (by repeat' first | exact Grows.refl _ | refine Grows.more ?_ _ | refine Grows.alloc ?_ _ | refine Grows.drew ?_)⟩
set_option maxRecDepth 100000 in
set_option maxHeartbeats 2000000 in
theorem refSet_great {ok okx : Nat → Prop} (g : Nat) (S : RS) (k : Nat) (A : Option Addr) (cap : Nat) (x : Rg) (w : World) (h : RefIs ok w g S) (hx : LRd okx w A cap x.d) (hf : x.fits) (hok : ∀ b, w.heap.size ≤ b → ok b) (hng : ¬ ok g) (hxg : ∀ b, okx b → ¬ b = g) (j : Nat) (hk : (j : Int) = k + 32) (hc : rcheck x = true) (h1 : 65 ≤ k) (h2 : k ≤ 90) (hcy : rcheck (rjoin ((S j).getD rg0) x) = true) :
    Calls Try.prog 63 #[.pointer (some ⟨g, 0, none⟩), .int .u8 (k : Int), .agg #[.slice A x.d.length cap, .bool x.whole]] w (RefPut ok g (rsSet (rsSet S j (rjoin ((S j).getD rg0) x)) 0 x, 0) w) := by
  have hb : InHeap g w := h.lt
  have hbl : g < w.heap.size := h.lt
  have n0 : ¬ w.heap.size = g := by omega
  have hno : Hid (∀ b, ok b → ¬ b = g) := Lib.hid (fun b h e => hng (e ▸ h))
  have hR := Lib.hid h
  have hX := Lib.hid hx
  have hC := Lib.hid hc
  have z0 : ((k : Int) != 0) = true := by rw [bne_iff_ne]; omega
  have k1 : (65 : Int) ≤ k := by omega
  have k2 : (k : Int) ≤ 90 := by omega
  have hw : IntKind.u8.wrap ((k : Int) + 32) = j := by rw [hk]; exact u8_wrap (by omega) (by omega)
  have k3 : ¬ (97 : Int) ≤ k := by omega
  have j0 : (0 : Int) ≤ (j : Int) := by omega
  have j1 : (j : Int) < 256 := by omega
  have hj9 : j < 256 := by omega
  have hgd := h.good.getD j
  have hfj := rjoin_fits _ _ hgd (rcheck_fits hc)
  have hfx : x.d.length ≤ 4000 ∧ ∀ s ∈ x.d, s.length ≤ 4000 := ⟨hf.len, hf.each⟩
  have hfy : ((S j).getD rg0).d.length ≤ 4000 ∧ ∀ s ∈ ((S j).getD rg0).d, s.length ≤ 4000 := ⟨by have := hgd.1; omega, fun s hs => by have := hgd.2 s hs; omega⟩
  obtain ⟨Ay, cy, q0, q1, hLy⟩ := h.val j hj9
  clear hgd
  generalize hy0 : (S j).getD rg0 = y0 at *
  have hLy := Lib.hid hLy
  have hY := Lib.hid hcy
  have hyx : Hid ((rjoin y0 x).fits) := Lib.hid hfj
  have hxw : Hid (∀ b, w.heap.size ≤ b → ¬ b = g) := Lib.hid (fun b h e => by omega)
  clear hcy hfj hk
  clear h hx
  go_enter Try.func63, Try.ntmps63
  go_wp2_with fail
  (with_reducible refine (rcheckRef_any A cap x _ (hX.out.grows (by repeat' first | exact Grows.refl _ | refine Grows.more ?_ _ | refine Grows.alloc ?_ _ | refine Grows.drew ?_)) hf).mono ?_)
  rw [hC.out]
  rintro e w1 ⟨rfl, m1, rfl⟩
  go_wp2_with fail
  go_region_held3 (fun w' => w'.cell? ⟨g, 256 + j * 2, none⟩ = some (.slice Ay y0.d.length cy) ∧ w'.cell? ⟨g, 256 + j * 2 + 1, none⟩ = some (.bool y0.whole) ∧ w'.cell? ⟨w.heap.size, 0, none⟩ = some (.slice A x.d.length cap) ∧ w'.cell? ⟨w.heap.size, 1, none⟩ = some (.bool x.whole))
    (first | (simp [go_sem, hb, q0, q1]; done))
    (first | (go_at_call 83; (refine Calls.mono (refJoin_any Ay A cy cap y0 x _ (hLy.out.grows ?_) (hX.out.grows ?_) hfy hfx) ?_); (repeat' first | exact Grows.refl _ | refine Grows.more ?_ _ | refine Grows.alloc ?_ _ | refine Grows.drew ?_); rintro e w2 ⟨A2, c2, rfl, hJ, m2, rfl⟩))
  all_goals
    first
    | (have hJ1 : LRd _ (more (more (w.alloc (.cells #[.slice A x.d.length cap, .bool x.whole] 68)) ⟨m1.bs, m1.n + 1⟩) m2) A2 c2 (rjoin y0 x).d := hJ
       have hJ2 : Hid (LRd (fun b => w.heap.size ≤ b) ((more (more (w.alloc (.cells #[.slice A x.d.length cap, .bool x.whole] 68)) ⟨m1.bs, m1.n + 1⟩) m2).alloc (.cells #[.slice A2 (rjoin y0 x).d.length c2, .bool (rjoin y0 x).whole] 68)) A2 c2 (rjoin y0 x).d) := Lib.hid ((hJ1.grows (by repeat' first | exact Grows.refl _ | refine Grows.more ?_ _ | refine Grows.alloc ?_ _ | refine Grows.drew ?_)).mono (fun b _ hb => (by simp at hb; omega : w.heap.size ≤ b))))
    | have hJ2 : Hid (LRd (fun b => w.heap.size ≤ b) (more ((more (w.alloc (.cells #[.slice A x.d.length cap, .bool x.whole] 68)) ⟨m1.bs, m1.n + 1⟩).alloc (.cells #[.slice A2 (rjoin y0 x).d.length c2, .bool (rjoin y0 x).whole] 68)) m2) A2 c2 (rjoin y0 x).d) := Lib.hid ((hJ.chg (chg_box _ _ _) (fun b _ hb hp => by simp at hb hp; omega)).mono (fun b _ hb => (by simp at hb; omega : w.heap.size ≤ b)))
    go_wp2_with fail
    (with_reducible refine (rcheckRef_any A2 c2 (rjoin y0 x) _ hJ2.out hyx.out).mono ?_)
    rw [hY.out]
    rintro e w1 ⟨rfl, m3, rfl⟩
    go_wp2_with fail
    (with_reducible refine (put_lit g _ j _ rfl hj9 A2 _ c2 _ (rjoin y0 x) rfl rfl _ (hR.out.grows (by repeat' first | exact Grows.refl _ | refine Grows.more ?_ _ | refine Grows.alloc ?_ _ | refine Grows.drew ?_)) (hJ2.out.grows (by repeat' first | exact Grows.refl _ | refine Grows.more ?_ _ | refine Grows.alloc ?_ _ | refine Grows.drew ?_)) hY.out (fun b h => hok b (by first | exact h | (simp at h; omega))) hng hxw.out).mono ?_)
    rintro e w2 ⟨rfl, hc2, hr2⟩
    have e0 : w2.cell? ⟨w.heap.size, 0, none⟩ = some (.slice A x.d.length cap) := (hc2.cell (a := ⟨w.heap.size, 0, none⟩) (by simp; omega) n0).trans (by simp [go_sem])
    have e1 : w2.cell? ⟨w.heap.size, 1, none⟩ = some (.bool x.whole) := (hc2.cell (a := ⟨w.heap.size, 1, none⟩) (by simp; omega) n0).trans (by simp [go_sem])
    have hsz2 : Hid (w.heap.size ≤ w2.heap.size) := Lib.hid (by have := hc2.size; simp at this; omega)
    have hX2 : Hid (LRd okx w2 A cap x.d) := Lib.hid ((hX.out.grows (by repeat' first | exact Grows.refl _ | refine Grows.more ?_ _ | refine Grows.alloc ?_ _ | refine Grows.drew ?_)).chg hc2 (fun b _ ho => hxg b ho))
    have hC2 : Hid (Chg (fun b => b = g) w w2) := Lib.hid ((Chg.of_grows (by repeat' first | exact Grows.refl _ | refine Grows.more ?_ _ | refine Grows.alloc ?_ _ | refine Grows.drew ?_)).trans hc2)
    have hR2 := Lib.hid hr2
    clear hc2 hr2
    go_wp2_with fail
    (with_reducible refine (put_lit g _ 0 0 rfl (by omega) A _ cap _ x rfl rfl _ hR2.out hX2.out hC.out (fun b h => hok b (Nat.le_trans hsz2.out h)) hng hxg).mono ?_)
    rintro e w3 ⟨rfl, hc3, hr3⟩
    have hC3 := Lib.hid (hC2.out.trans hc3)
    have hR3 := Lib.hid hr3
    clear hc3 hr3
    go_wp2_with fail
    go_ret
    exact ⟨rfl, hC3.out, hR3.out⟩
set_option maxRecDepth 3000 in
theorem refSet_any {ok okx : Nat → Prop} (g : Nat) (S : RS) (k : Nat) (A : Option Addr) (cap : Nat) (x : Rg) (w : World) (h : RefIs ok w g S) (hx : LRd okx w A cap x.d) (hf : x.fits) (hok : ∀ b, w.heap.size ≤ b → ok b) (hng : ¬ ok g) (hxg : ∀ b, okx b → ¬ b = g) (hk9 : k < 256) :
    Calls Try.prog 63 #[.pointer (some ⟨g, 0, none⟩), .int .u8 k, .agg #[.slice A x.d.length cap, .bool x.whole]] w (RefPut ok g (rset S k x) w) := by
  unfold rset
  cases hc : rcheck x with
  | false => simp only [if_true]; exact refSet_bad g S k A cap x w h hx hf hok hng hxg hc
  | true =>
    rw [if_neg (by simp)]
    by_cases h0 : (k : Int) = 0
    · rw [if_pos h0, h0]
      exact refSet_zero g S A cap x w h hx hf hok hng hxg hc
    · rw [if_neg h0]
      by_cases h1 : 65 ≤ (k : Int) ∧ (k : Int) ≤ 90
      · rw [if_pos h1]
        have hj : ((k + 32 : Nat) : Int) = (k : Int) + 32 := by omega
        rw [← hj]
        cases hy : rcheck (rjoin ((S ((k + 32 : Nat) : Int)).getD rg0) x) with
        | false => simp only [if_true]; exact refSet_long g S k A cap x w h hx hf hok hng hxg (k + 32) hj hc (by omega) (by omega) hy
        | true => rw [if_neg (by simp)]; exact refSet_great g S k A cap x w h hx hf hok hng hxg (k + 32) hj hc (by omega) (by omega) hy
      · rw [if_neg h1]
        by_cases h2 : 97 ≤ (k : Int) ∧ (k : Int) ≤ 122
        · rw [if_pos h2]
          exact refSet_small g S k A cap x w h hx hf hok hng hxg hc (by omega) (by omega)
        · rw [if_neg h2]
          by_cases h3 : k < 65
          · exact refSet_odd1 g S k A cap x w h hx hf hok hng hxg hc (by omega) h3
          · by_cases h4 : k < 97
            · exact refSet_odd2 g S k A cap x w h hx hf hok hng hxg hc (by omega) h4
            · exact refSet_odd3 g S k A cap x w h hx hf hok hng hxg hc (by omega)
end Go.Proofs.Ythanghgfakibnaa
