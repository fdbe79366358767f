/-
  Several texts of the proof: RegsWalk, RegsGet.
-/
import Derived.Test.YthanghgfakibnaaPk14
/-
  Registers: the walks of the small functions.
-/
namespace Go.Proofs.Ythanghgfakibnaa
open Go.RowKit

set_option maxRecDepth 3000 in
theorem zeroReg (w : World) : (zeroValue 68).run Try.prog w = .ok rz w := by kernel_rfl
set_option maxRecDepth 3000 in
theorem makeR (w : World) : (Instr.makeMap 94 none).run Try.prog w = .ok (.map (some w.heap.size)) (w.alloc (.map #[] 0)) := rfl
set_option maxRecDepth 3000 in
theorem eqlMap (w : World) (r : Option Nat) : (binOp .eql 94 (.map r) (.map none)).run Try.prog w = .ok (.bool r.isNone) w := run_eql_map_nil w _ _ _ r Try.underlying94
section
variable {w : World} {r : Nat} {k : Int} {v : Value}
set_option maxRecDepth 3000 in
theorem updR (hb : BMap w r) : (Instr.mapUpdate 94 (.map (some r)) (.int .u8 k) v).run Try.prog w = .ok () (putB w r k v) := run_update_byte Try.underlying94 Try.underlying5 k v hb
set_option maxRecDepth 3000 in
theorem entR (hb : BMap w r) : (Instr.mapEntry 94 (.map (some r)) (.int .u8 k)).run Try.prog w = .ok (.tuple #[valB w r k rz, .int .i64 (stB w r k : Nat)]) (entB w r k rz) := run_entry_byte Try.underlying94 Try.underlying5 k rz zeroReg hb
set_option maxRecDepth 3000 in
theorem stoR (hb : BMap w r) : (Instr.entryStore 94 (.map (some r)) (.int .i64 (stB w r k : Nat)) v).run Try.prog (entB w r k rz) = .ok () (putB w r k v) := run_store_byte k rz v hb
set_option maxRecDepth 3000 in
theorem lookR (hb : BMap w r) : (Instr.lookup 94 (.map (some r)) (.int .u8 k) true).run Try.prog w = .ok (.tuple #[valB w r k rz, .bool (hasB w r k)]) w := run_lookup_byte Try.underlying94 Try.underlying5 k rz zeroReg hb true
set_option maxRecDepth 3000 in
theorem lookV (hb : BMap w r) : (Instr.lookup 94 (.map (some r)) (.int .u8 k) false).run Try.prog w = .ok (valB w r k rz) w := run_lookup_byte Try.underlying94 Try.underlying5 k rz zeroReg hb false
end
attribute [local go_sem] bput
attribute [local go_sem ↓] makeR eqlMap updR entR stoR lookR lookV
set_option maxRecDepth 3000 in
set_option maxHeartbeats 400000 in
theorem none_nil (w : World) : Calls Try.prog 51 #[.pointer none] w fun e w' => e = .returned (.bool true) ∧ w = w' := by
  go_enter Try.func51, Try.ntmps51
  go_wp2_with fail
  go_ret
  exact ⟨rfl, rfl⟩
set_option maxRecDepth 3000 in
set_option maxHeartbeats 400000 in
theorem none_zero (p : Nat) (w : World) (hp : w.cell? ⟨p, 0, none⟩ = some (.map none)) : Calls Try.prog 51 #[.pointer (some ⟨p, 0, none⟩)] w fun e w' => e = .returned (.bool true) ∧ w = w' := by
  go_enter Try.func51, Try.ntmps51
  go_wp2_with fail
  go_ret
  exact ⟨rfl, rfl⟩
set_option maxRecDepth 3000 in
set_option maxHeartbeats 400000 in
theorem none_map (p r : Nat) (w : World) (hp : w.cell? ⟨p, 0, none⟩ = some (.map (some r))) : Calls Try.prog 51 #[.pointer (some ⟨p, 0, none⟩)] w fun e w' => e = .returned (.bool false) ∧ w = w' := by
  go_enter Try.func51, Try.ntmps51
  go_wp2_with fail
  go_ret
  exact ⟨rfl, rfl⟩
/-- A list of lines in new memory. -/
def NewL (d : List (List UInt8)) (w : World) (e : Ending) (w' : World) : Prop := ∃ A cap, e = .returned (.slice A d.length cap) ∧ LRd (fun b => w.heap.size ≤ b) w' A cap d ∧ Grows w w'
set_option maxRecDepth 3000 in
theorem NewLines.newL {d : List (List UInt8)} {w : World} {e : Ending} {w' : World} (h : NewLines d w e w') : NewL d w e w' := by
  obtain ⟨v, rfl, hown, hg⟩ := h
  obtain ⟨A, cap, rfl, h⟩ := LRd.of_own (ok := fun b => w.heap.size ≤ b) hown (fun b hb => hb)
  exact ⟨A, cap, rfl, h, hg⟩
/-- A text in new memory. -/
def NewReg (x : Rg) (w : World) (e : Ending) (w' : World) : Prop := ∃ A cap, e = .returned (.agg #[.slice A x.d.length cap, .bool x.whole]) ∧ LRd (fun b => w.heap.size ≤ b) w' A cap x.d ∧ Grows w w'
set_option maxRecDepth 3000 in
set_option maxHeartbeats 400000 in
theorem own_any {ok : Nat → Prop} (A : Option Addr) (cap : Nat) (x : Rg) (w : World) (hx : LRd ok w A cap x.d) (hl : x.d.length ≤ 4000) :
    Calls Try.prog 53 #[.agg #[.slice A x.d.length cap, .bool x.whole]] w (NewReg x w) := by
  have hr := hx.rd
  have hn := Lib.hid hx.nil
  go_enter Try.func53, Try.ntmps53
  go_wp2_with fail
  (with_reducible refine (clone_any A cap x.d _ (hr.grows (((Grows.refl _).alloc _).alloc _)) (by omega) hn.out).mono ?_)
  rintro e w1 ⟨v, rfl, hown, m1, rfl⟩
  obtain ⟨A1, c1, rfl, h1⟩ := LRd.of_own (ok := fun b => w.heap.size + 2 ≤ b) hown (fun b hb => by simpa using hb)
  have h1 := Lib.hid h1
  clear hown hr hx hn
  go_wp2_with fail
  exact bodyPost_ret (v := .agg #[.slice A1 x.d.length c1, .bool x.whole]) (by simp [results, Try.results53, go_sem]) rfl ⟨A1, c1, rfl, ((h1.out.chg (chg_boxes _ _ _ _ _) (fun b _ hb hp => by omega)).mono (fun b _ hb => by omega)), by repeat' first | exact Grows.refl _ | refine Grows.more ?_ _ | refine Grows.alloc ?_ _⟩
set_option maxRecDepth 3000 in
set_option maxHeartbeats 400000 in
theorem check_any {ok : Nat → Prop} (A : Option Addr) (cap : Nat) (x : Rg) (w : World) (hx : LRd ok w A cap x.d) (hf : x.fits) :
    Calls Try.prog 52 #[.agg #[.slice A x.d.length cap, .bool x.whole]] w fun e w' => e = .returned (.bool (rcheck x)) ∧ Grows w w' := by
  have hr := hx.rd
  have hl := hf.len
  have he := Lib.hid hf.each
  by_cases h0 : 0 < x.d.length
  · have hV : Hid (rcheck x = (lcheckV x.d == 0)) := Lib.hid (by simp [rcheck, h0])
    go_enter Try.func52, Try.ntmps52
    go_wp2_with fail
    (with_reducible refine (lcheck_any A cap x.d _ (hr.grows ((Grows.refl _).alloc _)) (by omega) (fun s hs => by have := he.out s hs; omega)).mono ?_)
    rintro e w1 ⟨rfl, rfl⟩
    go_wp2_with fail
    go_ret
    exact ⟨by rw [hV.out]; rfl, (Grows.refl _).alloc _⟩
  · have hV : Hid (rcheck x = false) := Lib.hid (by simp [rcheck, h0])
    have h00 : x.d.length = 0 := by omega
    go_enter Try.func52, Try.ntmps52
    go_wp2_with fail
    go_ret
    exact ⟨by rw [hV.out]; rfl, (Grows.refl _).alloc _⟩
set_option maxRecDepth 3000 in
set_option maxHeartbeats 400000 in
theorem new_any (w : World) : Calls Try.prog 47 #[] w fun e w' => e = .returned (.pointer (some ⟨w.heap.size + 1, 0, none⟩)) ∧ w' = (w.alloc (.map #[] 0)).alloc (.cells #[.map (some w.heap.size)] 96) := by
  go_enter Try.func47, Try.ntmps47
  go_wp2_with fail
  go_ret
  exact ⟨rfl, rfl⟩
end Go.Proofs.Ythanghgfakibnaa

/-
  Registers: the walks of Get and Push's parts.
-/
namespace Go.Proofs.Ythanghgfakibnaa
open Go.RowKit
attribute [local go_sem] bput
attribute [local go_sem ↓] makeR eqlMap updR entR stoR lookR lookV zeroReg
set_option maxRecDepth 3000 in
theorem u8_wrap {n : Int} (h : 0 ≤ n) (h2 : n < 256) : IntKind.u8.wrap n = n := by
  simp [IntKind.wrap, IntKind.bits, IntKind.signed]; omega
/-- Registers in memory: the struct's block, the map's. -/
structure Regs (ok : Nat → Prop) (w : World) (p r : Nat) (S : RS) : Prop where
  cell : w.cell? ⟨p, 0, none⟩ = some (.map (some r))
  map : MapR ok w r S
  good : RGood S
  ne : ¬ p = r
  inp : p < w.heap.size
/-- What Get answers. -/
def GetOut (x : Rg × Int) (w : World) (e : Ending) (w' : World) : Prop := ∃ A cap, e = .returned (.tuple #[.agg #[.slice A x.1.d.length cap, .bool x.1.whole], .int .i64 x.2]) ∧ LRd (fun b => w.heap.size ≤ b) w' A cap x.1.d ∧ Grows w w'
set_option maxRecDepth 3000 in
set_option maxHeartbeats 400000 in
theorem get_nil (c : Int) (w : World) : Calls Try.prog 31 #[.pointer none, .int .u8 c] w (GetOut (rg0, 1) w) := by
  go_enter Try.func31, Try.ntmps31
  go_wp2_with fail
  (with_reducible refine (none_nil _).mono ?_)
  rintro e w1 ⟨rfl, rfl⟩
  go_wp2_with fail
  exact bodyPost_ret (v := .tuple #[.agg #[.slice none 0 0, .bool false], .int .i64 1]) (by simp [results, Try.results31, go_sem]) rfl ⟨none, 0, rfl, ⟨Rd.nil_, by simp [rg0], by simp [rg0], by omega, by simp [rg0]⟩, by repeat' first | exact Grows.refl _ | refine Grows.more ?_ _ | refine Grows.alloc ?_ _⟩
set_option maxRecDepth 3000 in
set_option maxHeartbeats 400000 in
theorem get_zero (p : Nat) (c : Int) (w : World) (hp : w.cell? ⟨p, 0, none⟩ = some (.map none)) (hb : InHeap p w) : Calls Try.prog 31 #[.pointer (some ⟨p, 0, none⟩), .int .u8 c] w (GetOut (rg0, 1) w) := by
  go_enter Try.func31, Try.ntmps31
  go_wp2_with fail
  (with_reducible refine (none_zero p _ (by simp [go_sem, hb, hp])).mono ?_)
  rintro e w1 ⟨rfl, rfl⟩
  go_wp2_with fail
  exact bodyPost_ret (v := .tuple #[.agg #[.slice none 0 0, .bool false], .int .i64 1]) (by simp [results, Try.results31, go_sem]) rfl ⟨none, 0, rfl, ⟨Rd.nil_, by simp [rg0], by simp [rg0], by omega, by simp [rg0]⟩, by repeat' first | exact Grows.refl _ | refine Grows.more ?_ _ | refine Grows.alloc ?_ _⟩
set_option maxRecDepth 3000 in
set_option maxHeartbeats 1000000 in
theorem get_up {ok : Nat → Prop} (p r : Nat) (S : RS) (k : Nat) (w : World) (h : Regs ok w p r S) (h1 : 65 ≤ k) (h2 : k ≤ 90) : Calls Try.prog 31 #[.pointer (some ⟨p, 0, none⟩), .int .u8 k] w (GetOut (match S ((k : Int) + 32) with | none => (rg0, 170) | some x => (x, 0)) w) := by
  have hb : InHeap p w := h.inp
  have hr : InHeap r w := h.map.lt
  have hp := h.cell
  have hB := h.map.bmap
  have hhas := h.map.has ((k : Int) + 32)
  have hval := h.map.val ((k : Int) + 32)
  have hg := h.good.getD ((k : Int) + 32)
  have hw : IntKind.u8.wrap ((k : Int) + 32) = (k : Int) + 32 := u8_wrap (by omega) (by omega)
  have k1 : (65 : Int) ≤ k := by omega
  have k2 : (k : Int) ≤ 90 := by omega
  obtain ⟨A, cap, he, hL⟩ := hval
  cases hs : S ((k : Int) + 32) with
  | none =>
    rw [hs] at hhas
    have hhas : hasB w r ((k : Int) + 32) = false := hhas
    clear h hg hL
    go_enter Try.func31, Try.ntmps31
    go_wp2_with fail
    (with_reducible refine (none_map p r _ (by simp [go_sem, hb, hp])).mono ?_)
    rintro e w1 ⟨rfl, rfl⟩
    go_wp2_with fail
    exact bodyPost_ret (v := .tuple #[.agg #[.slice none 0 0, .bool false], .int .i64 170]) (by simp [results, Try.results31, go_sem]) rfl ⟨none, 0, rfl, ⟨Rd.nil_, by simp [rg0], by simp [rg0], by omega, by simp [rg0]⟩, by repeat' first | exact Grows.refl _ | refine Grows.more ?_ _ | refine Grows.alloc ?_ _⟩
  | some x =>
    rw [hs] at hhas he hL hg
    have hhas : hasB w r ((k : Int) + 32) = true := hhas
    have he : valB w r ((k : Int) + 32) rz = .agg #[.slice A x.d.length cap, .bool x.whole] := he
    have hL : LRd ok w A cap x.d := hL
    have hl : x.d.length ≤ 4000 := by have : x.d.length ≤ 2000 := hg.1; omega
    have hL := Lib.hid hL
    clear h hg
    go_enter Try.func31, Try.ntmps31
    go_wp2_with fail
    (with_reducible refine (none_map p r _ (by simp [go_sem, hb, hp])).mono ?_)
    rintro e w1 ⟨rfl, rfl⟩
    go_wp2_with fail
    (with_reducible refine (own_any A cap x _ (hL.out.grows (by repeat' first | exact Grows.refl _ | refine Grows.alloc ?_ _)) hl).mono ?_)
    rintro e w1 ⟨A1, c1, rfl, hO, m1, rfl⟩
    have hO := Lib.hid hO
    go_wp2_with fail
    exact bodyPost_ret (v := .tuple #[.agg #[.slice A1 x.d.length c1, .bool x.whole], .int .i64 0]) (by simp [results, Try.results31, go_sem]) rfl ⟨A1, c1, rfl, ((hO.out.chg (chg_boxes _ _ _ _ _) (fun b _ hb hp => by simp at hb hp; omega)).mono (fun b _ hb => by simp at hb; omega)), by repeat' first | exact Grows.refl _ | refine Grows.more ?_ _ | refine Grows.alloc ?_ _⟩
set_option maxRecDepth 3000 in
set_option maxHeartbeats 1000000 in
theorem get_low {ok : Nat → Prop} (p r : Nat) (S : RS) (k : Nat) (w : World) (h : Regs ok w p r S) (h1 : k < 65) : Calls Try.prog 31 #[.pointer (some ⟨p, 0, none⟩), .int .u8 k] w (GetOut (match S (k : Int) with | none => (rg0, 170) | some x => (x, 0)) w) := by
  have hb : InHeap p w := h.inp
  have hr : InHeap r w := h.map.lt
  have hp := h.cell
  have hB := h.map.bmap
  have hhas := h.map.has (k : Int)
  have hval := h.map.val (k : Int)
  have hg := h.good.getD (k : Int)
  have k1 : ¬ (65 : Int) ≤ k := by omega
  obtain ⟨A, cap, he, hL⟩ := hval
  cases hs : S (k : Int) with
  | none =>
    rw [hs] at hhas
    have hhas : hasB w r (k : Int) = false := hhas
    clear h hg hL
    go_enter Try.func31, Try.ntmps31
    go_wp2_with fail
    (with_reducible refine (none_map p r _ (by simp [go_sem, hb, hp])).mono ?_)
    rintro e w1 ⟨rfl, rfl⟩
    go_wp2_with fail
    exact bodyPost_ret (v := .tuple #[.agg #[.slice none 0 0, .bool false], .int .i64 170]) (by simp [results, Try.results31, go_sem]) rfl ⟨none, 0, rfl, ⟨Rd.nil_, by simp [rg0], by simp [rg0], by omega, by simp [rg0]⟩, by repeat' first | exact Grows.refl _ | refine Grows.more ?_ _ | refine Grows.alloc ?_ _⟩
  | some x =>
    rw [hs] at hhas he hL hg
    have hhas : hasB w r (k : Int) = true := hhas
    have he : valB w r (k : Int) rz = .agg #[.slice A x.d.length cap, .bool x.whole] := he
    have hL : LRd ok w A cap x.d := hL
    have hl : x.d.length ≤ 4000 := by have : x.d.length ≤ 2000 := hg.1; omega
    have hL := Lib.hid hL
    clear h hg
    go_enter Try.func31, Try.ntmps31
    go_wp2_with fail
    (with_reducible refine (none_map p r _ (by simp [go_sem, hb, hp])).mono ?_)
    rintro e w1 ⟨rfl, rfl⟩
    go_wp2_with fail
    (with_reducible refine (own_any A cap x _ (hL.out.grows (by repeat' first | exact Grows.refl _ | refine Grows.alloc ?_ _)) hl).mono ?_)
    rintro e w1 ⟨A1, c1, rfl, hO, m1, rfl⟩
    have hO := Lib.hid hO
    go_wp2_with fail
    exact bodyPost_ret (v := .tuple #[.agg #[.slice A1 x.d.length c1, .bool x.whole], .int .i64 0]) (by simp [results, Try.results31, go_sem]) rfl ⟨A1, c1, rfl, ((hO.out.chg (chg_boxes _ _ _ _ _) (fun b _ hb hp => by simp at hb hp; omega)).mono (fun b _ hb => by simp at hb; omega)), by repeat' first | exact Grows.refl _ | refine Grows.more ?_ _ | refine Grows.alloc ?_ _⟩
set_option maxRecDepth 3000 in
set_option maxHeartbeats 1000000 in
theorem get_high {ok : Nat → Prop} (p r : Nat) (S : RS) (k : Nat) (w : World) (h : Regs ok w p r S) (h1 : 90 < k) : Calls Try.prog 31 #[.pointer (some ⟨p, 0, none⟩), .int .u8 k] w (GetOut (match S (k : Int) with | none => (rg0, 170) | some x => (x, 0)) w) := by
  have hb : InHeap p w := h.inp
  have hr : InHeap r w := h.map.lt
  have hp := h.cell
  have hB := h.map.bmap
  have hhas := h.map.has (k : Int)
  have hval := h.map.val (k : Int)
  have hg := h.good.getD (k : Int)
  have k1 : (65 : Int) ≤ k := by omega
  have k2 : ¬ (k : Int) ≤ 90 := by omega
  obtain ⟨A, cap, he, hL⟩ := hval
  cases hs : S (k : Int) with
  | none =>
    rw [hs] at hhas
    have hhas : hasB w r (k : Int) = false := hhas
    clear h hg hL
    go_enter Try.func31, Try.ntmps31
    go_wp2_with fail
    (with_reducible refine (none_map p r _ (by simp [go_sem, hb, hp])).mono ?_)
    rintro e w1 ⟨rfl, rfl⟩
    go_wp2_with fail
    exact bodyPost_ret (v := .tuple #[.agg #[.slice none 0 0, .bool false], .int .i64 170]) (by simp [results, Try.results31, go_sem]) rfl ⟨none, 0, rfl, ⟨Rd.nil_, by simp [rg0], by simp [rg0], by omega, by simp [rg0]⟩, by repeat' first | exact Grows.refl _ | refine Grows.more ?_ _ | refine Grows.alloc ?_ _⟩
  | some x =>
    rw [hs] at hhas he hL hg
    have hhas : hasB w r (k : Int) = true := hhas
    have he : valB w r (k : Int) rz = .agg #[.slice A x.d.length cap, .bool x.whole] := he
    have hL : LRd ok w A cap x.d := hL
    have hl : x.d.length ≤ 4000 := by have : x.d.length ≤ 2000 := hg.1; omega
    have hL := Lib.hid hL
    clear h hg
    go_enter Try.func31, Try.ntmps31
    go_wp2_with fail
    (with_reducible refine (none_map p r _ (by simp [go_sem, hb, hp])).mono ?_)
    rintro e w1 ⟨rfl, rfl⟩
    go_wp2_with fail
    (with_reducible refine (own_any A cap x _ (hL.out.grows (by repeat' first | exact Grows.refl _ | refine Grows.alloc ?_ _)) hl).mono ?_)
    rintro e w1 ⟨A1, c1, rfl, hO, m1, rfl⟩
    have hO := Lib.hid hO
    go_wp2_with fail
    exact bodyPost_ret (v := .tuple #[.agg #[.slice A1 x.d.length c1, .bool x.whole], .int .i64 0]) (by simp [results, Try.results31, go_sem]) rfl ⟨A1, c1, rfl, ((hO.out.chg (chg_boxes _ _ _ _ _) (fun b _ hb hp => by simp at hb hp; omega)).mono (fun b _ hb => by simp at hb; omega)), by repeat' first | exact Grows.refl _ | refine Grows.more ?_ _ | refine Grows.alloc ?_ _⟩
set_option maxRecDepth 3000 in
theorem get_any {ok : Nat → Prop} (p r : Nat) (S : RS) (k : Nat) (w : World) (h : Regs ok w p r S) : Calls Try.prog 31 #[.pointer (some ⟨p, 0, none⟩), .int .u8 k] w (GetOut (rget S k) w) := by
  have key : ∀ j : Int, (j = if 65 ≤ (k : Int) ∧ (k : Int) ≤ 90 then (k : Int) + 32 else k) → rget S k = match S j with | none => (rg0, 170) | some x => (x, 0) := by
    intro j hj
    subst hj
    rfl
  by_cases h1 : k < 65
  · rw [key k (by rw [if_neg (by omega)])]
    exact get_low p r S k w h h1
  · by_cases h2 : 90 < k
    · rw [key k (by rw [if_neg (by omega)])]
      exact get_high p r S k w h h2
    · rw [key ((k : Int) + 32) (by rw [if_pos (by omega)])]
      exact get_up p r S k w h (by omega) (by omega)
end Go.Proofs.Ythanghgfakibnaa
