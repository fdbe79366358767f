/-
  Registers: the walks of the document's Get, Push.
-/
import Derived.Test.YtlhdbaaokgdabaaRegsRef
namespace Go.Proofs.Ytlhdbaaokgdabaa
open Go.RowKit
attribute [local go_sem ↓] zeroReg

set_option maxHeartbeats 1000000 in
theorem refGet_up {ok : Nat → Prop} (g : Nat) (S : RS) (k j : Nat) (hj : j < 256) (w : World) (h : RefIs ok w g S) (h1 : 65 ≤ k) (h2 : k ≤ 90) (hk : j = k + 32) : Calls Try.prog 27 #[.pointer (some ⟨g, 0, none⟩), .int .u8 k] w (RefGet ok (match S j with | none => (rg0, 170) | some x => (x, 0)) w) := by
  have hb : InHeap g w := h.lt
  have q2 := h.has j hj
  obtain ⟨A, cap, q0, q1, hL⟩ := h.val j hj
  have j0 : (0 : Int) ≤ (j : Int) := by omega
  have j1 : (j : Int) < 256 := by omega
  have hw : IntKind.u8.wrap ((k : Int) + 32) = j := by rw [hk]; exact u8_wrap (by omega) (by omega)
  have k1 : (65 : Int) ≤ k := by omega
  have k2 : (k : Int) ≤ 90 := by omega
  clear hk
  cases hs : S j with
  | none =>
    rw [hs] at q2
    have q2 : w.cell? ⟨g, j, none⟩ = some (.bool false) := q2
    clear h hL
    go_enter Try.func27, Try.ntmps27
    go_wp2_with fail
    exact bodyPost_ret (v := .tuple #[.agg #[.slice none 0 0, .bool false], .int .i64 170]) (by simp [results, Try.results27, go_sem]) rfl ⟨none, 0, rfl, ⟨Rd.nil_, by simp [rg0], by simp [rg0], by omega, by simp [rg0]⟩, (by repeat' first | exact Grows.refl _ | refine Grows.more ?_ _ | refine Grows.alloc ?_ _ | refine Grows.drew ?_)⟩
  | some x =>
    rw [hs] at q2 q0 q1 hL
    have q2 : w.cell? ⟨g, j, none⟩ = some (.bool true) := q2
    have q0 : w.cell? ⟨g, 256 + j * 2, none⟩ = some (.slice A x.d.length cap) := q0
    have q1 : w.cell? ⟨g, 256 + j * 2 + 1, none⟩ = some (.bool x.whole) := q1
    have hL : Hid (LRd ok w A cap x.d) := Lib.hid hL
    clear h
    go_enter Try.func27, Try.ntmps27
    go_wp2_with fail
    exact bodyPost_ret (v := .tuple #[.agg #[.slice A x.d.length cap, .bool x.whole], .int .i64 0]) (by simp [results, Try.results27, go_sem]) rfl ⟨A, cap, rfl, hL.out.grows (by repeat' first | exact Grows.refl _ | refine Grows.more ?_ _ | refine Grows.alloc ?_ _ | refine Grows.drew ?_), (by repeat' first | exact Grows.refl _ | refine Grows.more ?_ _ | refine Grows.alloc ?_ _ | refine Grows.drew ?_)⟩
set_option maxHeartbeats 1000000 in
theorem refGet_low {ok : Nat → Prop} (g : Nat) (S : RS) (j : Nat) (hj : j < 256) (w : World) (h : RefIs ok w g S) (h1 : j < 65) : Calls Try.prog 27 #[.pointer (some ⟨g, 0, none⟩), .int .u8 j] w (RefGet ok (match S j with | none => (rg0, 170) | some x => (x, 0)) w) := by
  have hb : InHeap g w := h.lt
  have q2 := h.has j hj
  obtain ⟨A, cap, q0, q1, hL⟩ := h.val j hj
  have j0 : (0 : Int) ≤ (j : Int) := by omega
  have j1 : (j : Int) < 256 := by omega
  have k1 : ¬ (65 : Int) ≤ j := by omega
  cases hs : S j with
  | none =>
    rw [hs] at q2
    have q2 : w.cell? ⟨g, j, none⟩ = some (.bool false) := q2
    clear h hL
    go_enter Try.func27, Try.ntmps27
    go_wp2_with fail
    exact bodyPost_ret (v := .tuple #[.agg #[.slice none 0 0, .bool false], .int .i64 170]) (by simp [results, Try.results27, go_sem]) rfl ⟨none, 0, rfl, ⟨Rd.nil_, by simp [rg0], by simp [rg0], by omega, by simp [rg0]⟩, (by repeat' first | exact Grows.refl _ | refine Grows.more ?_ _ | refine Grows.alloc ?_ _ | refine Grows.drew ?_)⟩
  | some x =>
    rw [hs] at q2 q0 q1 hL
    have q2 : w.cell? ⟨g, j, none⟩ = some (.bool true) := q2
    have q0 : w.cell? ⟨g, 256 + j * 2, none⟩ = some (.slice A x.d.length cap) := q0
    have q1 : w.cell? ⟨g, 256 + j * 2 + 1, none⟩ = some (.bool x.whole) := q1
    have hL : Hid (LRd ok w A cap x.d) := Lib.hid hL
    clear h
    go_enter Try.func27, Try.ntmps27
    go_wp2_with fail
    exact bodyPost_ret (v := .tuple #[.agg #[.slice A x.d.length cap, .bool x.whole], .int .i64 0]) (by simp [results, Try.results27, go_sem]) rfl ⟨A, cap, rfl, hL.out.grows (by repeat' first | exact Grows.refl _ | refine Grows.more ?_ _ | refine Grows.alloc ?_ _ | refine Grows.drew ?_), (by repeat' first | exact Grows.refl _ | refine Grows.more ?_ _ | refine Grows.alloc ?_ _ | refine Grows.drew ?_)⟩
set_option maxHeartbeats 1000000 in
theorem refGet_high {ok : Nat → Prop} (g : Nat) (S : RS) (j : Nat) (hj : j < 256) (w : World) (h : RefIs ok w g S) (h1 : 90 < j) : Calls Try.prog 27 #[.pointer (some ⟨g, 0, none⟩), .int .u8 j] w (RefGet ok (match S j with | none => (rg0, 170) | some x => (x, 0)) w) := by
  have hb : InHeap g w := h.lt
  have q2 := h.has j hj
  obtain ⟨A, cap, q0, q1, hL⟩ := h.val j hj
  have j0 : (0 : Int) ≤ (j : Int) := by omega
  have j1 : (j : Int) < 256 := by omega
  have k1 : (65 : Int) ≤ j := by omega
  have k2 : ¬ (j : Int) ≤ 90 := by omega
  cases hs : S j with
  | none =>
    rw [hs] at q2
    have q2 : w.cell? ⟨g, j, none⟩ = some (.bool false) := q2
    clear h hL
    go_enter Try.func27, Try.ntmps27
    go_wp2_with fail
    exact bodyPost_ret (v := .tuple #[.agg #[.slice none 0 0, .bool false], .int .i64 170]) (by simp [results, Try.results27, go_sem]) rfl ⟨none, 0, rfl, ⟨Rd.nil_, by simp [rg0], by simp [rg0], by omega, by simp [rg0]⟩, (by repeat' first | exact Grows.refl _ | refine Grows.more ?_ _ | refine Grows.alloc ?_ _ | refine Grows.drew ?_)⟩
  | some x =>
    rw [hs] at q2 q0 q1 hL
    have q2 : w.cell? ⟨g, j, none⟩ = some (.bool true) := q2
    have q0 : w.cell? ⟨g, 256 + j * 2, none⟩ = some (.slice A x.d.length cap) := q0
    have q1 : w.cell? ⟨g, 256 + j * 2 + 1, none⟩ = some (.bool x.whole) := q1
    have hL : Hid (LRd ok w A cap x.d) := Lib.hid hL
    clear h
    go_enter Try.func27, Try.ntmps27
    go_wp2_with fail
    exact bodyPost_ret (v := .tuple #[.agg #[.slice A x.d.length cap, .bool x.whole], .int .i64 0]) (by simp [results, Try.results27, go_sem]) rfl ⟨A, cap, rfl, hL.out.grows (by repeat' first | exact Grows.refl _ | refine Grows.more ?_ _ | refine Grows.alloc ?_ _ | refine Grows.drew ?_), (by repeat' first | exact Grows.refl _ | refine Grows.more ?_ _ | refine Grows.alloc ?_ _ | refine Grows.drew ?_)⟩
theorem refGet_any {ok : Nat → Prop} (g : Nat) (S : RS) (k : Nat) (hk : k < 256) (w : World) (h : RefIs ok w g S) : Calls Try.prog 27 #[.pointer (some ⟨g, 0, none⟩), .int .u8 k] w (RefGet ok (rget S k) w) := by
  have key : ∀ j : Nat, ((j : Int) = if 65 ≤ (k : Int) ∧ (k : Int) ≤ 90 then (k : Int) + 32 else k) → rget S k = match S j with | none => (rg0, 170) | some x => (x, 0) := by
    intro j hj
    rw [hj]
    rfl
  by_cases h1 : k < 65
  · rw [key k (by rw [if_neg (by omega)])]
    exact refGet_low g S k hk w h h1
  · by_cases h2 : 90 < k
    · rw [key k (by rw [if_neg (by omega)])]
      exact refGet_high g S k hk w h h2
    · rw [key (k + 32) (by rw [if_pos (by omega)]; omega)]
      exact refGet_up g S k (k + 32) (by omega) w h (by omega) (by omega) rfl
/-- What the document's Set and Push do. -/
def RefPut (ok : Nat → Prop) (g : Nat) (x : RS × Int) (w : World) (e : Ending) (w' : World) : Prop := e = .returned (.int .i64 x.2) ∧ Chg (fun b => b = g) w w' ∧ RefIs ok w' g x.1
theorem put_lit {ok okx : Nat → Prop} (g : Nat) (S : RS) (k : Nat) (c : Int) (hk : c = k) (hc9 : k < 256) (A : Option Addr) (n cap : Nat) (b : Bool) (x : Rg) (hn : n = x.d.length) (hbb : b = x.whole) (w : World) (h : RefIs ok w g S) (hx : LRd okx w A cap x.d) (hc : rcheck x = true) (hok : ∀ b, w.heap.size ≤ b → ok b) (hng : ¬ ok g) (hxg : ∀ b, okx b → ¬ b = g) :
    Calls Try.prog 26 #[.pointer (some ⟨g, 0, none⟩), .int .u8 c, .agg #[.slice A n cap, .bool b]] w fun e w' => e = .returned (.tuple #[]) ∧ Chg (fun b => b = g) w w' ∧ RefIs ok w' g (rsSet S c x) := by
  subst hk hn hbb
  exact put_any g S k hc9 A cap x w h hx hc hok hng hxg
set_option maxHeartbeats 4000000 in
theorem refPush_any {ok okx : Nat → Prop} (g : Nat) (S : RS) (A : Option Addr) (cap : Nat) (x : Rg) (w : World) (h : RefIs ok w g S) (hx : LRd okx w A cap x.d) (hf : x.fits) (hok : ∀ b, w.heap.size ≤ b → ok b) (hng : ¬ ok g) (hxg : ∀ b, okx b → ¬ b = g) :
    Calls Try.prog 14 #[.pointer (some ⟨g, 0, none⟩), .agg #[.slice A x.d.length cap, .bool x.whole]] w (RefPut ok g (rpush S x) w) := by
  have hb : InHeap g w := h.lt
  have hbl : g < w.heap.size := h.lt
  have n0 : ¬ w.heap.size = g := by omega
  have hno : Hid (∀ b, ok b → ¬ b = g) := Lib.hid (fun b h e => hng (e ▸ h))
  have hR := Lib.hid h
  have hX := Lib.hid hx
  clear h hx
  cases hc : rcheck x with
  | false =>
    have hC := Lib.hid hc
    have hV : Hid (rpush S x = (S, 2)) := Lib.hid (by unfold rpush; rw [if_pos hc])
    clear hc
    go_enter Try.func14, Try.ntmps14
    go_wp2_with fail
    (with_reducible refine (rcheckRef_any A cap x _ (hX.out.grows (by repeat' first | exact Grows.refl _ | refine Grows.more ?_ _ | refine Grows.alloc ?_ _ | refine Grows.drew ?_)) hf).mono ?_)
    rw [hC.out]
    rintro e w1 ⟨rfl, m1, rfl⟩
    go_wp2_with fail
    go_ret
    rw [hV.out]
    exact ⟨rfl, Chg.of_grows (by repeat' first | exact Grows.refl _ | refine Grows.more ?_ _ | refine Grows.alloc ?_ _ | refine Grows.drew ?_), hR.out.grows (by repeat' first | exact Grows.refl _ | refine Grows.more ?_ _ | refine Grows.alloc ?_ _ | refine Grows.drew ?_)⟩
  | true =>
    have hC := Lib.hid hc
    have hV : Hid (rpush S x = (rsSet (rsSet (rshifts S 8) 49 x) 0 x, 0)) := Lib.hid (by unfold rpush; rw [if_neg (by simp [hc])])
    clear hc
    go_enter Try.func14, Try.ntmps14
    go_wp2_with fail
    (with_reducible refine (rcheckRef_any A cap x _ (hX.out.grows (by repeat' first | exact Grows.refl _ | refine Grows.more ?_ _ | refine Grows.alloc ?_ _ | refine Grows.drew ?_)) hf).mono ?_)
    rw [hC.out]
    rintro e w1 ⟨rfl, m1, rfl⟩
    have hG : Hid (Grows w (more (w.alloc (.cells #[.slice A x.d.length cap, .bool x.whole] 25)) m1)) := Lib.hid (by repeat' first | exact Grows.refl _ | refine Grows.more ?_ _ | refine Grows.alloc ?_ _ | refine Grows.drew ?_)
    have hR1 := Lib.hid (hR.out.grows hG.out)
    have hX1 := Lib.hid (hX.out.grows hG.out)
    have hbx : InHeap w.heap.size (more (w.alloc (.cells #[.slice A x.d.length cap, .bool x.whole] 25)) m1) := by simp [go_sem]
    have c0 : (more (w.alloc (.cells #[.slice A x.d.length cap, .bool x.whole] 25)) m1).cell? ⟨w.heap.size, 0, none⟩ = some (.slice A x.d.length cap) := by simp [go_sem]
    have c1 : (more (w.alloc (.cells #[.slice A x.d.length cap, .bool x.whole] 25)) m1).cell? ⟨w.heap.size, 1, none⟩ = some (.bool x.whole) := by simp [go_sem]
    have hok' := Lib.hid (fun b (h : (more (w.alloc (.cells #[.slice A x.d.length cap, .bool x.whole] 25)) m1).heap.size ≤ b) => hok b (Nat.le_trans hG.out.below.size h))
    generalize more (w.alloc (.cells #[.slice A x.d.length cap, .bool x.whole] 25)) m1 = w0 at *
    generalize hbn : w.heap.size = bx at *
    go_wp2_with fail
    go_loopg [5] 8 (fun q c wr => ∃ n : Nat, q + n = 8 ∧ c = .int .i32 (57 - n) ∧ RefIs ok wr g (rshifts S n) ∧ Chg (fun b => b = g) w0 wr)
    case atStart => exact ⟨0, rfl, by simp, hR1.out, Chg.refl _ _⟩
    case round =>
      obtain ⟨n, hq, rfl, hr1, hc1⟩ := hrel
      have hQ := Lib.hid hq
      have hn8 : n ≤ 8 := by omega
      have hgi : InHeap g wr := hr1.lt
      have hbl2 : bx < wr.heap.size := Nat.lt_of_lt_of_le hbx hc1.size
      have hbi : InHeap bx wr := hbl2
      have d0 : wr.cell? ⟨bx, 0, none⟩ = some (.slice A x.d.length cap) := (hc1.cell (a := ⟨bx, 0, none⟩) hbx n0).trans c0
      have d1 : wr.cell? ⟨bx, 1, none⟩ = some (.bool x.whole) := (hc1.cell (a := ⟨bx, 1, none⟩) hbx n0).trans c1
      have H1 := Lib.hid hr1
      have HC := Lib.hid hc1
      have hokr := Lib.hid (fun b (h : wr.heap.size ≤ b) => hok'.out b (Nat.le_trans hc1.size h))
      by_cases h1 : n < 8
      · have g1 : (49 : Int) < 57 - n := by omega
        obtain ⟨j, hj⟩ : ∃ j : Nat, (57 : Int) - n = (j : Int) + 1 := ⟨56 - n, by omega⟩
        have hj9 : j < 58 := by omega
        have hw : IntKind.i32.wrap ((57 : Int) - n - 1) = j := by rw [hj]; simp [IntKind.wrap, IntKind.bits, IntKind.signed]; omega
        have hw2 : IntKind.u8.wrap ((57 : Int) - n) = (57 : Int) - n := u8_wrap (by omega) (by omega)
        have hw3 : (j : Int) = 57 - ((n + 1 : Nat) : Int) := by omega
        have j0 : (0 : Int) ≤ (j : Int) := by omega
        have j1 : (j : Int) < 256 := by omega
        have hsj : ((57 : Int) - n) - 1 = j := by omega
        have q2 := hr1.has j (by omega)
        obtain ⟨Ay, cy, q0, q1, hLy⟩ := hr1.val j (by omega)
        have hst : rshifts S (n + 1) = rshift (rshifts S n) (57 - n) := rfl
        have hgd := hr1.good j
        have HST := Lib.hid hst
        have HW3 := Lib.hid hw3
        have HSJ := Lib.hid hsj
        have HJ := Lib.hid hj
        clear hr1 hc1 hst hq hw3 hsj
        cases hs : rshifts S n j with
        | none =>
          rw [hs] at q2
          have q2 : wr.cell? ⟨g, j, none⟩ = some (.bool false) := q2
          have hSN : Hid (rshifts S (n + 1) = rshifts S n) := Lib.hid (by rw [HST.out]; unfold rshift; rw [HSJ.out, hs])
          clear hs hgd hLy hj
          go_wp2_with fail
          go_roundg (gk - 1)
          case measure => have := hQ.out; omega
          case rel => exact ⟨n + 1, by have := hQ.out; omega, by rw [HW3.out], by rw [hSN.out]; exact H1.out.grows (by repeat' first | exact Grows.refl _ | refine Grows.more ?_ _ | refine Grows.alloc ?_ _ | refine Grows.drew ?_), HC.out.trans (Chg.of_grows (by repeat' first | exact Grows.refl _ | refine Grows.more ?_ _ | refine Grows.alloc ?_ _ | refine Grows.drew ?_))⟩
        | some y =>
          rw [hs] at q2 q0 q1 hLy
          have q2 : wr.cell? ⟨g, j, none⟩ = some (.bool true) := q2
          have q0 : wr.cell? ⟨g, 256 + j * 2, none⟩ = some (.slice Ay y.d.length cy) := q0
          have q1 : wr.cell? ⟨g, 256 + j * 2 + 1, none⟩ = some (.bool y.whole) := q1
          have hLy : Hid (LRd ok wr Ay cy y.d) := Lib.hid hLy
          have hSN : Hid (rshifts S (n + 1) = rsSet (rshifts S n) (57 - n) y) := Lib.hid (by rw [HST.out]; unfold rshift; rw [HSJ.out, hs])
          have hyc := Lib.hid (hgd y hs)
          clear hs hgd hj
          go_wp2_with fail
          (with_reducible refine (put_lit g _ (j + 1) _ (by have := HJ.out; omega) (by omega) Ay _ cy _ y rfl rfl _ (H1.out.grows (by repeat' first | exact Grows.refl _ | refine Grows.more ?_ _ | refine Grows.alloc ?_ _ | refine Grows.drew ?_)) (hLy.out.grows (by repeat' first | exact Grows.refl _ | refine Grows.more ?_ _ | refine Grows.alloc ?_ _ | refine Grows.drew ?_)) hyc.out (fun b h => hokr.out b (by first | exact h | (simp at h; omega))) hng hno.out).mono ?_)
          rintro e w2 ⟨rfl, hc2, hr2⟩
          have hC2 := Lib.hid (HC.out.trans ((Chg.of_grows (by repeat' first | exact Grows.refl _ | refine Grows.more ?_ _ | refine Grows.alloc ?_ _ | refine Grows.drew ?_)).trans hc2))
          have hR2 := Lib.hid hr2
          clear hc2 hr2
          go_wp2_with fail
          go_roundg (gk - 1)
          case measure => have := hQ.out; omega
          case rel => exact ⟨n + 1, by have := hQ.out; omega, by rw [HW3.out], by rw [hSN.out]; exact hR2.out.grows (by repeat' first | exact Grows.refl _ | refine Grows.more ?_ _ | refine Grows.alloc ?_ _ | refine Grows.drew ?_), hC2.out.trans (Chg.of_grows (by repeat' first | exact Grows.refl _ | refine Grows.more ?_ _ | refine Grows.alloc ?_ _ | refine Grows.drew ?_))⟩
      · obtain rfl : n = 8 := by omega
        have hXr : Hid (LRd okx wr A cap x.d) := Lib.hid (hX1.out.chg hc1 (fun b _ ho => hxg b ho))
        clear hr1 hc1 hq
        go_wp2_with fail
        (with_reducible refine (put_lit g _ 49 49 rfl (by decide) A _ cap _ x rfl rfl _ H1.out hXr.out hC.out hokr.out hng hxg).mono ?_)
        rintro e w2 ⟨rfl, hc2, hr2⟩
        have hb2 : InHeap bx w2 := Nat.lt_of_lt_of_le hbl2 hc2.size
        have e0 : w2.cell? ⟨bx, 0, none⟩ = some (.slice A x.d.length cap) := (hc2.cell (a := ⟨bx, 0, none⟩) hbl2 n0).trans d0
        have e1 : w2.cell? ⟨bx, 1, none⟩ = some (.bool x.whole) := (hc2.cell (a := ⟨bx, 1, none⟩) hbl2 n0).trans d1
        have hXs : Hid (LRd okx w2 A cap x.d) := Lib.hid (hXr.out.chg hc2 (fun b _ ho => hxg b ho))
        have hC2 := Lib.hid hc2
        have hR2 := Lib.hid hr2
        clear hc2 hr2
        go_wp2_with fail
        (with_reducible refine (put_lit g _ 0 0 rfl (by decide) A _ cap _ x rfl rfl _ hR2.out hXs.out hC.out (fun b h => hokr.out b (Nat.le_trans hC2.out.size h)) hng hxg).mono ?_)
        rintro e w3 ⟨rfl, hc3, hr3⟩
        have hC3 := Lib.hid hc3
        have hR3 := Lib.hid hr3
        clear hc3 hr3
        go_wp2_with fail
        go_ret
        rw [hV.out]
        exact ⟨rfl, (((Chg.of_grows hG.out).trans HC.out).trans hC2.out).trans hC3.out, hR3.out⟩
end Go.Proofs.Ytlhdbaaokgdabaa
