/-
  Registers: the walk of Push.
-/
import Derived.Test.YtlhdbaaokgdabaaRegsSet
namespace Go.Proofs.Ytlhdbaaokgdabaa
open Go.RowKit
attribute [local go_sem] bput
attribute [local go_sem ↓] makeR eqlMap updR entR stoR lookR lookV zeroReg

/-- Set, whatever the letter and the text. -/
theorem set_any {ok okx : Nat → Prop} (p r : Nat) (S : RS) (k : Nat) (A : Option Addr) (cap : Nat) (x : Rg) (w : World) (h : Regs ok w p r S) (hx : LRd okx w A cap x.d) (hf : x.fits) (hok : ∀ b, w.heap.size ≤ b → ok b) (hnr : ¬ ok r) :
    Calls Try.prog 11 #[.pointer (some ⟨p, 0, none⟩), .int .u8 k, .agg #[.slice A x.d.length cap, .bool x.whole]] w (PutOut ok p r (rset S k x) w) := by
  unfold rset
  cases hc : rcheck x with
  | false => simp only [if_true]; exact set_bad p r S k A cap x w h hx hf hok hnr hc
  | true =>
    rw [if_neg (by simp)]
    by_cases h0 : (k : Int) = 0
    · rw [if_pos h0, h0]
      exact set_zero p r S A cap x w h hx hf hok hnr hc
    · rw [if_neg h0]
      by_cases h1 : 65 ≤ (k : Int) ∧ (k : Int) ≤ 90
      · rw [if_pos h1]
        cases hy : rcheck (rjoin ((S ((k : Int) + 32)).getD rg0) x) with
        | false => simp only [if_true]; exact set_long p r S k A cap x w h hx hf hok hnr hc (by omega) (by omega) hy
        | true => rw [if_neg (by simp)]; exact set_great p r S k A cap x w h hx hf hok hnr hc (by omega) (by omega) hy
      · rw [if_neg h1]
        by_cases h2 : 97 ≤ (k : Int) ∧ (k : Int) ≤ 122
        · rw [if_pos h2]
          exact set_small p r S k A cap x w h hx hf hok hnr hc (by omega) (by omega)
        · rw [if_neg h2]
          by_cases h3 : k < 65
          · exact set_odd1 p r S k A cap x w h hx hf hok hnr hc (by omega) h3
          · by_cases h4 : k < 97
            · exact set_odd2 p r S k A cap x w h hx hf hok hnr hc (by omega) h4
            · exact set_odd3 p r S k A cap x w h hx hf hok hnr hc (by omega)
set_option maxHeartbeats 400000 in
theorem push_nil (A : Option Addr) (n cap : Nat) (b : Bool) (w : World) : Calls Try.prog 13 #[.pointer none, .agg #[.slice A n cap, .bool b]] w fun e w' => e = .returned (.int .i64 1) ∧ Grows w w' := by
  go_enter Try.func13, Try.ntmps13
  go_wp2_with fail
  (with_reducible refine (none_nil _).mono ?_)
  rintro e w1 ⟨rfl, rfl⟩
  go_wp2_with fail
  go_ret
  exact ⟨rfl, (by repeat' first | exact Grows.refl _ | refine Grows.more ?_ _ | refine Grows.alloc ?_ _ | refine Grows.drew ?_)⟩
set_option maxHeartbeats 400000 in
theorem push_none (p : Nat) (w : World) (hp : w.cell? ⟨p, 0, none⟩ = some (.map none)) (hb : InHeap p w) (A : Option Addr) (n cap : Nat) (b : Bool) : Calls Try.prog 13 #[.pointer (some ⟨p, 0, none⟩), .agg #[.slice A n cap, .bool b]] w fun e w' => e = .returned (.int .i64 1) ∧ Grows w w' := by
  go_enter Try.func13, Try.ntmps13
  go_wp2_with fail
  (with_reducible refine (none_zero p _ (by simp [go_sem, hb, hp])).mono ?_)
  rintro e w1 ⟨rfl, rfl⟩
  go_wp2_with fail
  go_ret
  exact ⟨rfl, (by repeat' first | exact Grows.refl _ | refine Grows.more ?_ _ | refine Grows.alloc ?_ _ | refine Grows.drew ?_)⟩
set_option maxHeartbeats 4000000 in
theorem push_any {ok okx : Nat → Prop} (p r : Nat) (S : RS) (A : Option Addr) (cap : Nat) (x : Rg) (w : World) (h : Regs ok w p r S) (hx : LRd okx w A cap x.d) (hf : x.fits) (hok : ∀ b, w.heap.size ≤ b → ok b) (hnr : ¬ ok r) (hxr : ∀ b, okx b → ¬ b = r) :
    Calls Try.prog 13 #[.pointer (some ⟨p, 0, none⟩), .agg #[.slice A x.d.length cap, .bool x.whole]] w (PutOut ok p r (rpush S x) w) := by
  have hb : InHeap p w := h.inp
  have hr : InHeap r w := h.map.lt
  have hrl := h.map.lt
  have hp := h.cell
  have hne := h.ne
  have n0 : ¬ w.heap.size = r := by omega
  have hl := hf.len
  have hR := Lib.hid h
  have hX := Lib.hid hx
  clear h hx
  cases hc : rcheck x with
  | false =>
    have hC := Lib.hid hc
    have hV : Hid (rpush S x = (S, 2)) := Lib.hid (by unfold rpush; rw [if_pos hc])
    clear hc
    go_enter Try.func13, Try.ntmps13
    go_wp2_with fail
    (with_reducible refine (none_map p r _ (by simp [go_sem, hb, hp])).mono ?_)
    rintro e w1 ⟨rfl, rfl⟩
    go_wp2_with fail
    (with_reducible refine (check_any A cap x _ (hX.out.grows (by repeat' first | exact Grows.refl _ | refine Grows.more ?_ _ | refine Grows.alloc ?_ _ | refine Grows.drew ?_)) hf).mono ?_)
    rw [hC.out]
    rintro e w1 ⟨rfl, m1, rfl⟩
    go_wp2_with fail
    go_ret
    rw [hV.out]
    exact ⟨rfl, Chg.of_grows (by repeat' first | exact Grows.refl _ | refine Grows.more ?_ _ | refine Grows.alloc ?_ _ | refine Grows.drew ?_), hR.out.grows (by repeat' first | exact Grows.refl _ | refine Grows.more ?_ _ | refine Grows.alloc ?_ _ | refine Grows.drew ?_)⟩
  | true =>
    have hC := Lib.hid hc
    have hV : Hid (rpush S x = (rsSet (rsSet (rshifts S 8) 49 x) 0 x, 0)) := Lib.hid (by unfold rpush; rw [if_neg (by simp [hc])])
    clear hc
    go_enter Try.func13, Try.ntmps13
    go_wp2_with fail
    (with_reducible refine (none_map p r _ (by simp [go_sem, hb, hp])).mono ?_)
    rintro e w1 ⟨rfl, rfl⟩
    go_wp2_with fail
    (with_reducible refine (check_any A cap x _ (hX.out.grows (by repeat' first | exact Grows.refl _ | refine Grows.more ?_ _ | refine Grows.alloc ?_ _ | refine Grows.drew ?_)) hf).mono ?_)
    rw [hC.out]
    rintro e w1 ⟨rfl, m1, rfl⟩
    have hG : Hid (Grows w (more (w.alloc (.cells #[.slice A x.d.length cap, .bool x.whole] 25)) m1)) := Lib.hid (by repeat' first | exact Grows.refl _ | refine Grows.more ?_ _ | refine Grows.alloc ?_ _ | refine Grows.drew ?_)
    have hR1 := Lib.hid (hR.out.grows hG.out)
    have hX1' := Lib.hid (hX.out.grows hG.out)
    have hbx : InHeap w.heap.size (more (w.alloc (.cells #[.slice A x.d.length cap, .bool x.whole] 25)) m1) := by simp [go_sem]
    have c0 : (more (w.alloc (.cells #[.slice A x.d.length cap, .bool x.whole] 25)) m1).cell? ⟨w.heap.size, 0, none⟩ = some (.slice A x.d.length cap) := by simp [go_sem]
    have c1 : (more (w.alloc (.cells #[.slice A x.d.length cap, .bool x.whole] 25)) m1).cell? ⟨w.heap.size, 1, none⟩ = some (.bool x.whole) := by simp [go_sem]
    have hsz := hG.out.below.size
    have hok' : ∀ b, w.heap.size ≤ b → ok b := hok
    generalize more (w.alloc (.cells #[.slice A x.d.length cap, .bool x.whole] 25)) m1 = w0 at *
    generalize hbn : w.heap.size = bx at *
    go_wp2_with fail
    go_loopg [5] 8 (fun q c wr => ∃ n : Nat, q + n = 8 ∧ c = .int .u8 (57 - n) ∧ Regs ok wr p r (rshifts S n) ∧ Chg (fun b => b = r) w0 wr)
    case atStart => exact ⟨0, rfl, by simp, hR1.out, Chg.refl _ _⟩
    case round =>
      obtain ⟨n, hq, rfl, hr1, hc1⟩ := hrel
      have hQ := Lib.hid hq
      have hn8 : n ≤ 8 := by omega
      have hb1 : InHeap p wr := hr1.inp
      have hrr : InHeap r wr := hr1.map.lt
      have hp1 := hr1.cell
      have hB := hr1.map.bmap
      have hbl : bx < wr.heap.size := Nat.lt_of_lt_of_le hbx hc1.size
      have hbi : InHeap bx wr := hbl
      have d0 : wr.cell? ⟨bx, 0, none⟩ = some (.slice A x.d.length cap) := (hc1.cell (a := ⟨bx, 0, none⟩) hbx n0).trans c0
      have d1 : wr.cell? ⟨bx, 1, none⟩ = some (.bool x.whole) := (hc1.cell (a := ⟨bx, 1, none⟩) hbx n0).trans c1
      have hrl1 := hr1.map.lt
      have n2 : ∀ n, ¬ wr.heap.size + n = r := fun n => by omega
      have n3 : ¬ wr.heap.size = r := by omega
      by_cases h1 : n < 8
      · have g1 : (49 : Int) < 57 - n := by omega
        have hw : IntKind.u8.wrap ((57 : Int) - n - 1) = 57 - n - 1 := u8_wrap (by omega) (by omega)
        have hhas := hr1.map.has ((57 : Int) - n - 1)
        have hval := hr1.map.val ((57 : Int) - n - 1)
        have hst : rshifts S (n + 1) = rshift (rshifts S n) (57 - n) := rfl
        have hgd := hr1.good ((57 : Int) - n - 1)
        have H1 := Lib.hid hr1
        have HC := Lib.hid hc1
        have HST := Lib.hid hst
        clear hr1 hc1 hst hq
        obtain ⟨Ay, cy, he, hLy⟩ := hval
        cases hs : rshifts S n ((57 : Int) - n - 1) with
        | none =>
          rw [hs] at hhas
          have hhas : hasB wr r ((57 : Int) - n - 1) = false := hhas
          have hSN : Hid (rshifts S (n + 1) = rshifts S n) := Lib.hid (by rw [HST.out]; unfold rshift; rw [hs])
          clear hs hgd hLy
          go_wp2_with fail
          go_roundg (gk - 1)
          case measure => have := hQ.out; omega
          case rel => exact ⟨n + 1, by have := hQ.out; omega, by go_num, by rw [hSN.out]; exact H1.out.grows (by repeat' first | exact Grows.refl _ | refine Grows.more ?_ _ | refine Grows.alloc ?_ _ | refine Grows.drew ?_), HC.out.trans (Chg.of_grows (by repeat' first | exact Grows.refl _ | refine Grows.more ?_ _ | refine Grows.alloc ?_ _ | refine Grows.drew ?_))⟩
        | some y =>
          rw [hs] at hhas he hLy
          have hhas : hasB wr r ((57 : Int) - n - 1) = true := hhas
          have he : valB wr r ((57 : Int) - n - 1) rz = .agg #[.slice Ay y.d.length cy, .bool y.whole] := he
          have hLy : Hid (LRd ok wr Ay cy y.d) := Lib.hid hLy
          have hSN : Hid (rshifts S (n + 1) = rsSet (rshifts S n) (57 - n) y) := Lib.hid (by rw [HST.out]; unfold rshift; rw [hs])
          have hyc := Lib.hid (hgd y hs)
          clear hs hgd
          go_wp2_with fail
          go_region_held3 (fun w' => w'.cell? ⟨p, 0, none⟩ = some (.map (some r)) ∧ w'.cell? ⟨wr.heap.size, 0, none⟩ = some (.slice Ay y.d.length cy) ∧ w'.cell? ⟨wr.heap.size, 1, none⟩ = some (.bool y.whole))
            (first | (simp [go_sem, hb1, hp1, hne, n3]; done))
            (fail)
          go_wp2_with fail
          go_roundg (gk - 1)
          case measure => have := hQ.out; omega
          case rel => exact ⟨n + 1, by have := hQ.out; omega, by go_num, by rw [hSN.out]; exact (H1.out.grows (by repeat' first | exact Grows.refl _ | refine Grows.more ?_ _ | refine Grows.alloc ?_ _ | refine Grows.drew ?_)).put hnr _ (hLy.out.grows (by repeat' first | exact Grows.refl _ | refine Grows.more ?_ _ | refine Grows.alloc ?_ _ | refine Grows.drew ?_)) hyc.out, (HC.out.trans (Chg.of_grows (by repeat' first | exact Grows.refl _ | refine Grows.more ?_ _ | refine Grows.alloc ?_ _ | refine Grows.drew ?_))).trans (Chg.putB _ _)⟩
      · obtain rfl : n = 8 := by omega
        have H1 := Lib.hid hr1
        have HC := Lib.hid hc1
        have hXr : Hid (LRd okx wr A cap x.d) := Lib.hid (hX1'.out.chg hc1 (fun b _ ho => hxr b ho))
        clear hr1 hc1 hq
        go_wp2_with fail
        go_region_held3 (fun w' => w'.cell? ⟨p, 0, none⟩ = some (.map (some r)) ∧ w'.cell? ⟨bx, 0, none⟩ = some (.slice A x.d.length cap) ∧ w'.cell? ⟨bx, 1, none⟩ = some (.bool x.whole))
          (first | (simp [go_sem, hb1, hp1, hne, n0, d0, d1, hbi]; done))
          (first | (go_at_call 25; (refine Calls.mono (own_any A cap x _ (hXr.out.grows ?_) hl) ?_); (repeat' first | exact Grows.refl _ | refine Grows.more ?_ _ | refine Grows.alloc ?_ _ | refine Grows.drew ?_); first | (guard_hyp hOa : LRd _ _ _ _ _; rintro e w3 ⟨A3, c3, rfl, hOb, m4, rfl⟩; have hB2 := bmap_at hB hOb (by repeat' first | exact Grows.refl _ | refine Grows.more ?_ _ | refine Grows.alloc ?_ _ | refine Grows.drew ?_)) | (rintro e w2 ⟨A2, c2, rfl, hOa, m3, rfl⟩)))
        go_wp2_with fail
        go_ret
        rw [hV.out]
        exact ⟨rfl, (((Chg.of_grows hG.out).trans HC.out).trans (Chg.of_grows (by repeat' first | exact Grows.refl _ | refine Grows.more ?_ _ | refine Grows.alloc ?_ _ | refine Grows.drew ?_))).trans ((Chg.putB _ _).trans (Chg.putB _ _)), ((H1.out.grows (by repeat' first | exact Grows.refl _ | refine Grows.more ?_ _ | refine Grows.alloc ?_ _ | refine Grows.drew ?_)).put hnr _ ((hOa.grows (by repeat' first | exact Grows.refl _ | refine Grows.more ?_ _ | refine Grows.alloc ?_ _ | refine Grows.drew ?_)).mono fun b _ hb => hok' b (by simp at hb; omega)) hC.out).put hnr 0 ((hOb.mono fun b _ hb => hok' b (by simp at hb; omega)).chg (Chg.putB _ _) fun b _ hb e => hnr (e ▸ hb)) hC.out⟩
end Go.Proofs.Ytlhdbaaokgdabaa
