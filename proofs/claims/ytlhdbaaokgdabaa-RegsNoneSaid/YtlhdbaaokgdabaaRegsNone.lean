/-
  Registers: the law RegsNone.
-/
import Derived.Test.YtlhdbaaokgdabaaRegsLives
import Derived.Test.YtlhdbaaokgdabaaActs
namespace Go.Proofs.Ytlhdbaaokgdabaa
open Go.RowKit

set_option maxHeartbeats 400000 in
theorem clone_nil (w : World) : Calls Try.prog 22 #[.pointer none] w fun e w' => e = .returned (.pointer none) ∧ Grows w w' := by
  go_enter Try.func22, Try.ntmps22
  go_wp2_with fail
  (with_reducible refine (none_nil _).mono ?_)
  rintro e w1 ⟨rfl, rfl⟩
  go_wp2_with fail
  go_ret
  exact ⟨rfl, Grows.refl _⟩
set_option maxHeartbeats 400000 in
theorem clone_none (p : Nat) (w : World) (hp : w.cell? ⟨p, 0, none⟩ = some (.map none)) : Calls Try.prog 22 #[.pointer (some ⟨p, 0, none⟩)] w fun e w' => e = .returned (.pointer none) ∧ Grows w w' := by
  go_enter Try.func22, Try.ntmps22
  go_wp2_with fail
  (with_reducible refine (none_zero p _ hp).mono ?_)
  rintro e w1 ⟨rfl, rfl⟩
  go_wp2_with fail
  go_ret
  exact ⟨rfl, Grows.refl _⟩
theorem lrd_came {w : World} {A : Option Addr} {cap : Nat} {d : List (List UInt8)} (h : Came w A cap d) : LRd (fun _ => True) w A cap d := ⟨h.rd, h.nil, h.le, h.cap63, fun _ _ _ => trivial⟩
theorem beyond20 (A : Option Addr) (cap : Nat) (d : List (List UInt8)) (w : World) (hA : Rd w 1 A d.length (lv d)) (hd : d.length ≤ 9223372036854775807) (hl : ∀ s ∈ d, s.length ≤ 9223372036854775807) :
    Calls Try.prog 8 #[.slice A d.length cap, .int .i64 20] w fun e w' => e = .returned (.bool (bigL d 20)) ∧ w = w' := beyondLines_any A cap d 20 w hA hd (by omega) hl
theorem same_zero {ok : Nat → Prop} (A : Option Addr) (ca : Nat) (w : World) (ha : LRd ok w A ca rg0.d) : Calls Try.prog 16 #[.agg #[.slice A rg0.d.length ca, .bool rg0.whole], .agg #[.slice none 0 0, .bool false]] w fun e w' => e = .returned (.bool true) ∧ Grows w w' := by
  have := sameReg_any A none ca 0 rg0 rg0 w ha (⟨Rd.nil_, by simp [rg0], by simp [rg0], by omega, by simp [rg0]⟩ : LRd (fun _ => True) w none 0 rg0.d) (by simp [rg0]) (by simp [rg0])
  rwa [rsame_self] at this
set_option maxHeartbeats 4000000 in
theorem regsNone_law (c : Nat) (A : Option Addr) (cap : Nat) (x : Rg) (w : World) (hx : Came w A cap x.d) (hc : c < 256) :
    Calls Try.prog 5 #[.int .u8 c, .agg #[.slice A x.d.length cap, .bool x.whole]] w fun e w' => e = .returned (.bool true) ∧ Grows w w' := by
  have hX := Lib.hid hx
  clear hx
  cases hb : bigL x.d 20 with
  | true =>
    have hB := Lib.hid hb
    clear hb
    go_enter Try.func5, Try.ntmps5
    go_wp2_with fail
    (with_reducible refine (beyond20 A cap x.d _ (hX.out.rd.grows ((Grows.refl _).alloc _)) hX.out.len hX.out.each).mono ?_)
    rw [hB.out]
    rintro e w1 ⟨rfl, rfl⟩
    go_wp2_with fail
    (with_reducible refine (lives_any _).mono ?_)
    rintro e w1 ⟨rfl, m1, rfl⟩
    go_wp2_with fail
    go_ret
    exact ⟨rfl, (by repeat' first | exact Grows.refl _ | refine Grows.more ?_ _ | refine Grows.alloc ?_ _ | refine Grows.drew ?_)⟩
  | false =>
    have hB := Lib.hid hb
    have hxl := (bigL_no hb).1
    clear hb
    go_enter Try.func5, Try.ntmps5
    go_wp2_with fail
    (with_reducible refine (beyond20 A cap x.d _ (hX.out.rd.grows ((Grows.refl _).alloc _)) hX.out.len hX.out.each).mono ?_)
    rw [hB.out]
    rintro e w1 ⟨rfl, rfl⟩
    go_wp2_with fail
    go_loopg [5, 6] 2 (fun q v i wr => ∃ k : Nat, q + k = 2 ∧ i = .int .i64 k ∧ (v = .pointer none ∨ ∃ b, v = .pointer (some ⟨b, 0, none⟩) ∧ wr.cell? ⟨b, 0, none⟩ = some (.map none) ∧ InHeap b wr) ∧ Grows (w.alloc (.cells #[.slice A x.d.length cap, .bool x.whole] 25)) wr)
    case atStart => exact ⟨0, rfl, rfl, .inl rfl, Grows.refl _⟩
    case round =>
      obtain ⟨k, hq, rfl, hv, m0, rfl⟩ := hrel
      have hQ := Lib.hid hq
      by_cases h1 : k < 2
      · clear hq
        rcases hv with rfl | ⟨b, rfl, hcell, hin⟩
        · go_wp2_with fail
          (with_reducible refine (get_nil _ _).mono ?_)
          rintro e w2 ⟨A2, c2, rfl, hL, m2, rfl⟩
          have hL := Lib.hid hL
          go_wp2_with fail
          (with_reducible refine (same_zero A2 c2 _ (hL.out.grows (by repeat' first | exact Grows.refl _ | refine Grows.more ?_ _ | refine Grows.alloc ?_ _ | refine Grows.drew ?_))).mono ?_)
          rintro e w3 ⟨rfl, m3, rfl⟩
          go_wp2_with fail
          (with_reducible refine (set_nil _ _ _ _ _ _).mono ?_)
          rintro e w4 ⟨rfl, m4, rfl⟩
          go_wp2_with fail
          (with_reducible refine (push_nil _ _ _ _ _).mono ?_)
          rintro e w5 ⟨rfl, m5, rfl⟩
          go_wp2_with fail
          (with_reducible refine (clone_nil _).mono ?_)
          rintro e w6 ⟨rfl, m6, rfl⟩
          go_wp2_with fail
          go_roundg (gk - 1)
          case measure => have := hQ.out; omega
          case rel => exact ⟨k + 1, by have := hQ.out; omega, by go_num, .inr ⟨_, rfl, by simp [go_sem], by simp [go_sem]⟩, (by repeat' first | exact Grows.refl _ | refine Grows.more ?_ _ | refine Grows.alloc ?_ _ | refine Grows.drew ?_)⟩
        · go_wp2_with fail
          (with_reducible refine (get_zero b _ _ (by simp [go_sem, hcell]) (by simp [go_sem, hin])).mono ?_)
          rintro e w2 ⟨A2, c2, rfl, hL, m2, rfl⟩
          have hL := Lib.hid hL
          go_wp2_with fail
          (with_reducible refine (same_zero A2 c2 _ (hL.out.grows (by repeat' first | exact Grows.refl _ | refine Grows.more ?_ _ | refine Grows.alloc ?_ _ | refine Grows.drew ?_))).mono ?_)
          rintro e w3 ⟨rfl, m3, rfl⟩
          go_wp2_with fail
          (with_reducible refine (set_none b _ (by simp [go_sem, hcell, hin]) (by simp [go_sem, hin]) _ _ _ _ _).mono ?_)
          rintro e w4 ⟨rfl, m4, rfl⟩
          go_wp2_with fail
          (with_reducible refine (push_none b _ (by simp [go_sem, hcell, hin]) (by simp [go_sem, hin]) _ _ _ _).mono ?_)
          rintro e w5 ⟨rfl, m5, rfl⟩
          go_wp2_with fail
          (with_reducible refine (clone_none b _ (by simp [go_sem, hcell, hin])).mono ?_)
          rintro e w6 ⟨rfl, m6, rfl⟩
          go_wp2_with fail
          go_roundg (gk - 1)
          case measure => have := hQ.out; omega
          case rel => exact ⟨k + 1, by have := hQ.out; omega, by go_num, .inr ⟨_, rfl, by simp [go_sem], by simp [go_sem]⟩, (by repeat' first | exact Grows.refl _ | refine Grows.more ?_ _ | refine Grows.alloc ?_ _ | refine Grows.drew ?_)⟩
      · obtain rfl : k = 2 := by omega
        clear hv
        go_wp2_with fail
        (with_reducible refine (new_any _).mono ?_)
        rintro e w2 ⟨rfl, hw2⟩
        have hN : Hid (Regs (fun _ => True) w2 ((more (w.alloc (.cells #[.slice A x.d.length cap, .bool x.whole] 25)) m0).heap.size + 1) (more (w.alloc (.cells #[.slice A x.d.length cap, .bool x.whole] 25)) m0).heap.size rs0) := Lib.hid (hw2 ▸ regs_new _ _)
        have hG : Hid (Grows w w2) := Lib.hid (by rw [hw2]; exact (by repeat' first | exact Grows.refl _ | refine Grows.more ?_ _ | refine Grows.alloc ?_ _ | refine Grows.drew ?_))
        clear hw2
        generalize (more (w.alloc (.cells #[.slice A x.d.length cap, .bool x.whole] 25)) m0).heap.size = r at hN ⊢
        go_wp2_with fail
        (with_reducible refine (get_lit (r + 1) r rs0 c c rfl _ hN.out rg0 170 rfl).mono ?_)
        rintro e w3 ⟨A3, c3, rfl, hL, m3, rfl⟩
        have hL := Lib.hid hL
        go_wp2_with fail
        (with_reducible refine (same_zero A3 c3 _ (hL.out.grows (by repeat' first | exact Grows.refl _ | refine Grows.more ?_ _ | refine Grows.alloc ?_ _ | refine Grows.drew ?_))).mono ?_)
        rintro e w4 ⟨rfl, m4, rfl⟩
        go_wp2_with fail
        (with_reducible refine (lives_any _).mono ?_)
        rintro e w5 ⟨rfl, m5, rfl⟩
        go_wp2_with fail
        go_ret
        exact ⟨rfl, hG.out.trans (by repeat' first | exact Grows.refl _ | refine Grows.more ?_ _ | refine Grows.alloc ?_ _ | refine Grows.drew ?_)⟩
theorem regsNone_int (c : Int) (hc : 0 ≤ c ∧ c ≤ 255) (A : Option Addr) (cap : Nat) (x : Rg) (w : World) (hx : Came w A cap x.d) :
    Calls Try.prog 5 #[.int .u8 c, .agg #[.slice A x.d.length cap, .bool x.whole]] w fun e w' => e = .returned (.bool true) ∧ Grows w w' := by
  obtain ⟨k, rfl⟩ : ∃ k : Nat, c = k := ⟨c.toNat, by omega⟩
  exact regsNone_law k A cap x w hx (by omega)
end Go.Proofs.Ytlhdbaaokgdabaa
