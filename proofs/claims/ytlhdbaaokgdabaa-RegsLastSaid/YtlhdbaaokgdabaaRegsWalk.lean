/-
  Registers: the walks of the small functions.
-/
import Derived.Test.YtlhdbaaokgdabaaRegsMem
namespace Go.Proofs.Ytlhdbaaokgdabaa
open Go.RowKit

theorem zeroReg (w : World) : (zeroValue 25).run Try.prog w = .ok rz w := by kernel_rfl
theorem makeR (w : World) : (Instr.makeMap 51 none).run Try.prog w = .ok (.map (some w.heap.size)) (w.alloc (.map #[] 0)) := rfl
theorem eqlMap (w : World) (r : Option Nat) : (binOp .eql 51 (.map r) (.map none)).run Try.prog w = .ok (.bool r.isNone) w := run_eql_map_nil w _ _ _ r Try.underlying51
section
variable {w : World} {r : Nat} {k : Int} {v : Value}
theorem updR (hb : BMap w r) : (Instr.mapUpdate 51 (.map (some r)) (.int .u8 k) v).run Try.prog w = .ok () (putB w r k v) := run_update_byte Try.underlying51 Try.underlying5 k v hb
theorem entR (hb : BMap w r) : (Instr.mapEntry 51 (.map (some r)) (.int .u8 k)).run Try.prog w = .ok (.tuple #[valB w r k rz, .int .i64 (stB w r k : Nat)]) (entB w r k rz) := run_entry_byte Try.underlying51 Try.underlying5 k rz zeroReg hb
theorem stoR (hb : BMap w r) : (Instr.entryStore 51 (.map (some r)) (.int .i64 (stB w r k : Nat)) v).run Try.prog (entB w r k rz) = .ok () (putB w r k v) := run_store_byte k rz v hb
theorem lookR (hb : BMap w r) : (Instr.lookup 51 (.map (some r)) (.int .u8 k) true).run Try.prog w = .ok (.tuple #[valB w r k rz, .bool (hasB w r k)]) w := run_lookup_byte Try.underlying51 Try.underlying5 k rz zeroReg hb true
theorem lookV (hb : BMap w r) : (Instr.lookup 51 (.map (some r)) (.int .u8 k) false).run Try.prog w = .ok (valB w r k rz) w := run_lookup_byte Try.underlying51 Try.underlying5 k rz zeroReg hb false
end
attribute [local go_sem] bput
attribute [local go_sem ↓] makeR eqlMap updR entR stoR lookR lookV

set_option maxHeartbeats 400000 in
theorem none_nil (w : World) : Calls Try.prog 24 #[.pointer none] w fun e w' => e = .returned (.bool true) ∧ w = w' := by
  go_enter Try.func24, Try.ntmps24
  go_wp2_with fail
  go_ret
  exact ⟨rfl, rfl⟩
set_option maxHeartbeats 400000 in
theorem none_zero (p : Nat) (w : World) (hp : w.cell? ⟨p, 0, none⟩ = some (.map none)) : Calls Try.prog 24 #[.pointer (some ⟨p, 0, none⟩)] w fun e w' => e = .returned (.bool true) ∧ w = w' := by
  go_enter Try.func24, Try.ntmps24
  go_wp2_with fail
  go_ret
  exact ⟨rfl, rfl⟩
set_option maxHeartbeats 400000 in
theorem none_map (p r : Nat) (w : World) (hp : w.cell? ⟨p, 0, none⟩ = some (.map (some r))) : Calls Try.prog 24 #[.pointer (some ⟨p, 0, none⟩)] w fun e w' => e = .returned (.bool false) ∧ w = w' := by
  go_enter Try.func24, Try.ntmps24
  go_wp2_with fail
  go_ret
  exact ⟨rfl, rfl⟩
/-- A list of lines in new memory. -/
def NewL (d : List (List UInt8)) (w : World) (e : Ending) (w' : World) : Prop := ∃ A cap, e = .returned (.slice A d.length cap) ∧ LRd (fun b => w.heap.size ≤ b) w' A cap d ∧ Grows w w'
theorem NewLines.newL {d : List (List UInt8)} {w : World} {e : Ending} {w' : World} (h : NewLines d w e w') : NewL d w e w' := by
  obtain ⟨v, rfl, hown, hg⟩ := h
  obtain ⟨A, cap, rfl, h⟩ := LRd.of_own (ok := fun b => w.heap.size ≤ b) hown (fun b hb => hb)
  exact ⟨A, cap, rfl, h, hg⟩
/-- A text in new memory. -/
def NewReg (x : Rg) (w : World) (e : Ending) (w' : World) : Prop := ∃ A cap, e = .returned (.agg #[.slice A x.d.length cap, .bool x.whole]) ∧ LRd (fun b => w.heap.size ≤ b) w' A cap x.d ∧ Grows w w'
set_option maxHeartbeats 400000 in
theorem own_any {ok : Nat → Prop} (A : Option Addr) (cap : Nat) (x : Rg) (w : World) (hx : LRd ok w A cap x.d) (hl : x.d.length ≤ 4000) :
    Calls Try.prog 25 #[.agg #[.slice A x.d.length cap, .bool x.whole]] w (NewReg x w) := by
  have hr := hx.rd
  have hn := Lib.hid hx.nil
  go_enter Try.func25, Try.ntmps25
  go_wp2_with fail
  (with_reducible refine (clone_any A cap x.d _ (hr.grows (((Grows.refl _).alloc _).alloc _)) (by omega) hn.out).mono ?_)
  rintro e w1 ⟨v, rfl, hown, m1, rfl⟩
  obtain ⟨A1, c1, rfl, h1⟩ := LRd.of_own (ok := fun b => w.heap.size + 2 ≤ b) hown (fun b hb => by simpa using hb)
  have h1 := Lib.hid h1
  clear hown hr hx hn
  go_wp2_with fail
  exact bodyPost_ret (v := .agg #[.slice A1 x.d.length c1, .bool x.whole]) (by simp [results, Try.results25, go_sem]) rfl ⟨A1, c1, rfl, ((h1.out.chg (chg_boxes _ _ _ _ _) (fun b _ hb hp => by omega)).mono (fun b _ hb => by omega)), by repeat' first | exact Grows.refl _ | refine Grows.more ?_ _ | refine Grows.alloc ?_ _⟩
set_option maxHeartbeats 400000 in
theorem check_any {ok : Nat → Prop} (A : Option Addr) (cap : Nat) (x : Rg) (w : World) (hx : LRd ok w A cap x.d) (hf : x.fits) :
    Calls Try.prog 19 #[.agg #[.slice A x.d.length cap, .bool x.whole]] w fun e w' => e = .returned (.bool (rcheck x)) ∧ Grows w w' := by
  have hr := hx.rd
  have hl := hf.len
  have he := Lib.hid hf.each
  by_cases h0 : 0 < x.d.length
  · have hV : Hid (rcheck x = (lcheckV x.d == 0)) := Lib.hid (by simp [rcheck, h0])
    go_enter Try.func19, Try.ntmps19
    go_wp2_with fail
    (with_reducible refine (lcheck_any A cap x.d _ (hr.grows ((Grows.refl _).alloc _)) (by omega) (fun s hs => by have := he.out s hs; omega)).mono ?_)
    rintro e w1 ⟨rfl, rfl⟩
    go_wp2_with fail
    go_ret
    exact ⟨by rw [hV.out]; rfl, (Grows.refl _).alloc _⟩
  · have hV : Hid (rcheck x = false) := Lib.hid (by simp [rcheck, h0])
    have h00 : x.d.length = 0 := by omega
    go_enter Try.func19, Try.ntmps19
    go_wp2_with fail
    go_ret
    exact ⟨by rw [hV.out]; rfl, (Grows.refl _).alloc _⟩
set_option maxHeartbeats 400000 in
theorem new_any (w : World) : Calls Try.prog 10 #[] w fun e w' => e = .returned (.pointer (some ⟨w.heap.size + 1, 0, none⟩)) ∧ w' = (w.alloc (.map #[] 0)).alloc (.cells #[.map (some w.heap.size)] 53) := by
  go_enter Try.func10, Try.ntmps10
  go_wp2_with fail
  go_ret
  exact ⟨rfl, rfl⟩
end Go.Proofs.Ytlhdbaaokgdabaa
