/-
  Registers: the walks of Get and Push's parts.
-/
import Derived.Test.YtlhdbaaokgdabaaRegsWalk
namespace Go.Proofs.Ytlhdbaaokgdabaa
open Go.RowKit
attribute [local go_sem] bput
attribute [local go_sem ↓] makeR eqlMap updR entR stoR lookR lookV zeroReg

theorem u8_wrap {n : Int} (h : 0 ≤ n) (h2 : n < 256) : IntKind.u8.wrap n = n := by
  simp [IntKind.wrap, IntKind.bits, IntKind.signed]; omega
/-- Registers in memory: the struct's block, the map's. -/
structure Regs (ok : Nat → Prop) (w : World) (p r : Nat) (S : RS) : Prop where
  cell : w.cell? ⟨p, 0, none⟩ = some (.map (some r))
  map : MapR ok w r S
  good : RGood S
  ne : ¬ p = r
  inp : p < w.heap.size
/-- What Get answers. -/
def GetOut (x : Rg × Int) (w : World) (e : Ending) (w' : World) : Prop := ∃ A cap, e = .returned (.tuple #[.agg #[.slice A x.1.d.length cap, .bool x.1.whole], .int .i64 x.2]) ∧ LRd (fun b => w.heap.size ≤ b) w' A cap x.1.d ∧ Grows w w'
set_option maxHeartbeats 400000 in
theorem get_nil (c : Int) (w : World) : Calls Try.prog 21 #[.pointer none, .int .u8 c] w (GetOut (rg0, 1) w) := by
  go_enter Try.func21, Try.ntmps21
  go_wp2_with fail
  (with_reducible refine (none_nil _).mono ?_)
  rintro e w1 ⟨rfl, rfl⟩
  go_wp2_with fail
  exact bodyPost_ret (v := .tuple #[.agg #[.slice none 0 0, .bool false], .int .i64 1]) (by simp [results, Try.results21, go_sem]) rfl ⟨none, 0, rfl, ⟨Rd.nil_, by simp [rg0], by simp [rg0], by omega, by simp [rg0]⟩, by repeat' first | exact Grows.refl _ | refine Grows.more ?_ _ | refine Grows.alloc ?_ _⟩
set_option maxHeartbeats 400000 in
theorem get_zero (p : Nat) (c : Int) (w : World) (hp : w.cell? ⟨p, 0, none⟩ = some (.map none)) (hb : InHeap p w) : Calls Try.prog 21 #[.pointer (some ⟨p, 0, none⟩), .int .u8 c] w (GetOut (rg0, 1) w) := by
  go_enter Try.func21, Try.ntmps21
  go_wp2_with fail
  (with_reducible refine (none_zero p _ (by simp [go_sem, hb, hp])).mono ?_)
  rintro e w1 ⟨rfl, rfl⟩
  go_wp2_with fail
  exact bodyPost_ret (v := .tuple #[.agg #[.slice none 0 0, .bool false], .int .i64 1]) (by simp [results, Try.results21, go_sem]) rfl ⟨none, 0, rfl, ⟨Rd.nil_, by simp [rg0], by simp [rg0], by omega, by simp [rg0]⟩, by repeat' first | exact Grows.refl _ | refine Grows.more ?_ _ | refine Grows.alloc ?_ _⟩
set_option maxHeartbeats 1000000 in
theorem get_up {ok : Nat → Prop} (p r : Nat) (S : RS) (k : Nat) (w : World) (h : Regs ok w p r S) (h1 : 65 ≤ k) (h2 : k ≤ 90) : Calls Try.prog 21 #[.pointer (some ⟨p, 0, none⟩), .int .u8 k] w (GetOut (match S ((k : Int) + 32) with | none => (rg0, 170) | some x => (x, 0)) w) := by
  have hb : InHeap p w := h.inp
  have hr : InHeap r w := h.map.lt
  have hp := h.cell
  have hB := h.map.bmap
  have hhas := h.map.has ((k : Int) + 32)
  have hval := h.map.val ((k : Int) + 32)
  have hg := h.good.getD ((k : Int) + 32)
  have hw : IntKind.u8.wrap ((k : Int) + 32) = (k : Int) + 32 := u8_wrap (by omega) (by omega)
  have k1 : (65 : Int) ≤ k := by omega
  have k2 : (k : Int) ≤ 90 := by omega
  obtain ⟨A, cap, he, hL⟩ := hval
  cases hs : S ((k : Int) + 32) with
  | none =>
    rw [hs] at hhas
    have hhas : hasB w r ((k : Int) + 32) = false := hhas
    clear h hg hL
    go_enter Try.func21, Try.ntmps21
    go_wp2_with fail
    (with_reducible refine (none_map p r _ (by simp [go_sem, hb, hp])).mono ?_)
    rintro e w1 ⟨rfl, rfl⟩
    go_wp2_with fail
    exact bodyPost_ret (v := .tuple #[.agg #[.slice none 0 0, .bool false], .int .i64 170]) (by simp [results, Try.results21, go_sem]) rfl ⟨none, 0, rfl, ⟨Rd.nil_, by simp [rg0], by simp [rg0], by omega, by simp [rg0]⟩, by repeat' first | exact Grows.refl _ | refine Grows.more ?_ _ | refine Grows.alloc ?_ _⟩
  | some x =>
    rw [hs] at hhas he hL hg
    have hhas : hasB w r ((k : Int) + 32) = true := hhas
    have he : valB w r ((k : Int) + 32) rz = .agg #[.slice A x.d.length cap, .bool x.whole] := he
    have hL : LRd ok w A cap x.d := hL
    have hl : x.d.length ≤ 4000 := by have : x.d.length ≤ 2000 := hg.1; omega
    have hL := Lib.hid hL
    clear h hg
    go_enter Try.func21, Try.ntmps21
    go_wp2_with fail
    (with_reducible refine (none_map p r _ (by simp [go_sem, hb, hp])).mono ?_)
    rintro e w1 ⟨rfl, rfl⟩
    go_wp2_with fail
    (with_reducible refine (own_any A cap x _ (hL.out.grows (by repeat' first | exact Grows.refl _ | refine Grows.alloc ?_ _)) hl).mono ?_)
    rintro e w1 ⟨A1, c1, rfl, hO, m1, rfl⟩
    have hO := Lib.hid hO
    go_wp2_with fail
    exact bodyPost_ret (v := .tuple #[.agg #[.slice A1 x.d.length c1, .bool x.whole], .int .i64 0]) (by simp [results, Try.results21, go_sem]) rfl ⟨A1, c1, rfl, ((hO.out.chg (chg_boxes _ _ _ _ _) (fun b _ hb hp => by simp at hb hp; omega)).mono (fun b _ hb => by simp at hb; omega)), by repeat' first | exact Grows.refl _ | refine Grows.more ?_ _ | refine Grows.alloc ?_ _⟩
set_option maxHeartbeats 1000000 in
theorem get_low {ok : Nat → Prop} (p r : Nat) (S : RS) (k : Nat) (w : World) (h : Regs ok w p r S) (h1 : k < 65) : Calls Try.prog 21 #[.pointer (some ⟨p, 0, none⟩), .int .u8 k] w (GetOut (match S (k : Int) with | none => (rg0, 170) | some x => (x, 0)) w) := by
  have hb : InHeap p w := h.inp
  have hr : InHeap r w := h.map.lt
  have hp := h.cell
  have hB := h.map.bmap
  have hhas := h.map.has (k : Int)
  have hval := h.map.val (k : Int)
  have hg := h.good.getD (k : Int)
  have k1 : ¬ (65 : Int) ≤ k := by omega
  obtain ⟨A, cap, he, hL⟩ := hval
  cases hs : S (k : Int) with
  | none =>
    rw [hs] at hhas
    have hhas : hasB w r (k : Int) = false := hhas
    clear h hg hL
    go_enter Try.func21, Try.ntmps21
    go_wp2_with fail
    (with_reducible refine (none_map p r _ (by simp [go_sem, hb, hp])).mono ?_)
    rintro e w1 ⟨rfl, rfl⟩
    go_wp2_with fail
    exact bodyPost_ret (v := .tuple #[.agg #[.slice none 0 0, .bool false], .int .i64 170]) (by simp [results, Try.results21, go_sem]) rfl ⟨none, 0, rfl, ⟨Rd.nil_, by simp [rg0], by simp [rg0], by omega, by simp [rg0]⟩, by repeat' first | exact Grows.refl _ | refine Grows.more ?_ _ | refine Grows.alloc ?_ _⟩
  | some x =>
    rw [hs] at hhas he hL hg
    have hhas : hasB w r (k : Int) = true := hhas
    have he : valB w r (k : Int) rz = .agg #[.slice A x.d.length cap, .bool x.whole] := he
    have hL : LRd ok w A cap x.d := hL
    have hl : x.d.length ≤ 4000 := by have : x.d.length ≤ 2000 := hg.1; omega
    have hL := Lib.hid hL
    clear h hg
    go_enter Try.func21, Try.ntmps21
    go_wp2_with fail
    (with_reducible refine (none_map p r _ (by simp [go_sem, hb, hp])).mono ?_)
    rintro e w1 ⟨rfl, rfl⟩
    go_wp2_with fail
    (with_reducible refine (own_any A cap x _ (hL.out.grows (by repeat' first | exact Grows.refl _ | refine Grows.alloc ?_ _)) hl).mono ?_)
    rintro e w1 ⟨A1, c1, rfl, hO, m1, rfl⟩
    have hO := Lib.hid hO
    go_wp2_with fail
    exact bodyPost_ret (v := .tuple #[.agg #[.slice A1 x.d.length c1, .bool x.whole], .int .i64 0]) (by simp [results, Try.results21, go_sem]) rfl ⟨A1, c1, rfl, ((hO.out.chg (chg_boxes _ _ _ _ _) (fun b _ hb hp => by simp at hb hp; omega)).mono (fun b _ hb => by simp at hb; omega)), by repeat' first | exact Grows.refl _ | refine Grows.more ?_ _ | refine Grows.alloc ?_ _⟩
set_option maxHeartbeats 1000000 in
theorem get_high {ok : Nat → Prop} (p r : Nat) (S : RS) (k : Nat) (w : World) (h : Regs ok w p r S) (h1 : 90 < k) : Calls Try.prog 21 #[.pointer (some ⟨p, 0, none⟩), .int .u8 k] w (GetOut (match S (k : Int) with | none => (rg0, 170) | some x => (x, 0)) w) := by
  have hb : InHeap p w := h.inp
  have hr : InHeap r w := h.map.lt
  have hp := h.cell
  have hB := h.map.bmap
  have hhas := h.map.has (k : Int)
  have hval := h.map.val (k : Int)
  have hg := h.good.getD (k : Int)
  have k1 : (65 : Int) ≤ k := by omega
  have k2 : ¬ (k : Int) ≤ 90 := by omega
  obtain ⟨A, cap, he, hL⟩ := hval
  cases hs : S (k : Int) with
  | none =>
    rw [hs] at hhas
    have hhas : hasB w r (k : Int) = false := hhas
    clear h hg hL
    go_enter Try.func21, Try.ntmps21
    go_wp2_with fail
    (with_reducible refine (none_map p r _ (by simp [go_sem, hb, hp])).mono ?_)
    rintro e w1 ⟨rfl, rfl⟩
    go_wp2_with fail
    exact bodyPost_ret (v := .tuple #[.agg #[.slice none 0 0, .bool false], .int .i64 170]) (by simp [results, Try.results21, go_sem]) rfl ⟨none, 0, rfl, ⟨Rd.nil_, by simp [rg0], by simp [rg0], by omega, by simp [rg0]⟩, by repeat' first | exact Grows.refl _ | refine Grows.more ?_ _ | refine Grows.alloc ?_ _⟩
  | some x =>
    rw [hs] at hhas he hL hg
    have hhas : hasB w r (k : Int) = true := hhas
    have he : valB w r (k : Int) rz = .agg #[.slice A x.d.length cap, .bool x.whole] := he
    have hL : LRd ok w A cap x.d := hL
    have hl : x.d.length ≤ 4000 := by have : x.d.length ≤ 2000 := hg.1; omega
    have hL := Lib.hid hL
    clear h hg
    go_enter Try.func21, Try.ntmps21
    go_wp2_with fail
    (with_reducible refine (none_map p r _ (by simp [go_sem, hb, hp])).mono ?_)
    rintro e w1 ⟨rfl, rfl⟩
    go_wp2_with fail
    (with_reducible refine (own_any A cap x _ (hL.out.grows (by repeat' first | exact Grows.refl _ | refine Grows.alloc ?_ _)) hl).mono ?_)
    rintro e w1 ⟨A1, c1, rfl, hO, m1, rfl⟩
    have hO := Lib.hid hO
    go_wp2_with fail
    exact bodyPost_ret (v := .tuple #[.agg #[.slice A1 x.d.length c1, .bool x.whole], .int .i64 0]) (by simp [results, Try.results21, go_sem]) rfl ⟨A1, c1, rfl, ((hO.out.chg (chg_boxes _ _ _ _ _) (fun b _ hb hp => by simp at hb hp; omega)).mono (fun b _ hb => by simp at hb; omega)), by repeat' first | exact Grows.refl _ | refine Grows.more ?_ _ | refine Grows.alloc ?_ _⟩
theorem get_any {ok : Nat → Prop} (p r : Nat) (S : RS) (k : Nat) (w : World) (h : Regs ok w p r S) : Calls Try.prog 21 #[.pointer (some ⟨p, 0, none⟩), .int .u8 k] w (GetOut (rget S k) w) := by
  have key : ∀ j : Int, (j = if 65 ≤ (k : Int) ∧ (k : Int) ≤ 90 then (k : Int) + 32 else k) → rget S k = match S j with | none => (rg0, 170) | some x => (x, 0) := by
    intro j hj
    subst hj
    rfl
  by_cases h1 : k < 65
  · rw [key k (by rw [if_neg (by omega)])]
    exact get_low p r S k w h h1
  · by_cases h2 : 90 < k
    · rw [key k (by rw [if_neg (by omega)])]
      exact get_high p r S k w h h2
    · rw [key ((k : Int) + 32) (by rw [if_pos (by omega)])]
      exact get_up p r S k w h (by omega) (by omega)
end Go.Proofs.Ytlhdbaaokgdabaa
