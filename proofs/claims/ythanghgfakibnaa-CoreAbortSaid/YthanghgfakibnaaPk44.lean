/-
  Chapter 19's lives, walked.
-/
import Derived.Test.YthanghgfakibnaaPk40
import Derived.Test.YthanghgfakibnaaPk11
import Derived.Test.YthanghgfakibnaaPk37
namespace Go.Proofs.Ythanghgfakibnaa
open Go.RowKit

def lA : List (List UInt8) := [[97], [98]]
def lX : List (List UInt8) := [[120]]
def lB : List (List UInt8) := [[98]]
def lv0 : CoV := coNew lA
def lv1 : CoV := (coBegin lv0).1
def lv2 : CoV := (coSplice lv1 ⟨0, 1, []⟩).1
def lv3 : CoV := (coEnd lv2).1
def lv4 : CoV := (coUndo lv3).1
def lv5 : CoV := (coUndo lv4).1
def lv6 : CoV := (coBegin lv5).1
def lv7 : CoV := (coSplice lv6 ⟨1, 0, lX⟩).1
def lv8 : CoV := coAbort lv7
set_option maxRecDepth 3000 in
theorem e0 : coSplice lv0 ⟨0, 0, []⟩ = (lv0, 2) := by kernel_rfl
set_option maxRecDepth 3000 in
theorem e1 : coBegin lv0 = (lv1, 0) := by kernel_rfl
set_option maxRecDepth 3000 in
theorem e2 : coSplice lv1 ⟨0, 1, []⟩ = (lv2, 0) := by kernel_rfl
set_option maxRecDepth 3000 in
theorem e3 : coEnd lv2 = (lv3, [⟨0, 1, []⟩]) := by kernel_rfl
set_option maxRecDepth 3000 in
theorem e4 : coUndo lv3 = (lv4, 0) := by kernel_rfl
set_option maxRecDepth 3000 in
theorem e4l : undoL lv3 = [⟨0, 1, lA⟩] := by kernel_rfl
set_option maxRecDepth 3000 in
theorem e5 : coUndo lv4 = (lv5, 0) := by kernel_rfl
set_option maxRecDepth 3000 in
theorem e5l : undoL lv4 = [⟨0, 2, lB⟩] := by kernel_rfl
set_option maxRecDepth 3000 in
theorem e6 : coBegin lv5 = (lv6, 0) := by kernel_rfl
set_option maxRecDepth 3000 in
theorem e7 : coSplice lv6 ⟨1, 0, lX⟩ = (lv7, 0) := by kernel_rfl
set_option maxRecDepth 3000 in
theorem n0 : lv0.s.cur = 2 := by kernel_rfl
set_option maxRecDepth 3000 in
theorem n2 : lv2.s.cur = 1 := by kernel_rfl
set_option maxRecDepth 3000 in
theorem m2 : (lv2.s.L.length : Int) = 1 := by kernel_rfl
set_option maxRecDepth 3000 in
theorem d3 : lv3.dirty = true := by kernel_rfl
set_option maxRecDepth 3000 in
theorem l4 : lv4.s.L = lA := by kernel_rfl
set_option maxRecDepth 3000 in
theorem l8 : lv8.s.L = lB := by kernel_rfl
set_option maxRecDepth 3000 in
theorem m8 : (lv8.s.L.length : Int) = 1 := by kernel_rfl
set_option maxRecDepth 3000 in
theorem did1 : lv1.did.length ≤ 1000000 := by decide
set_option maxRecDepth 3000 in
theorem did0 : lv0.did.length ≤ 1000000 := by decide
set_option maxRecDepth 3000 in
theorem did6 : lv6.did.length ≤ 1000000 := by decide
set_option maxRecDepth 3000 in
/-- A list in a block of its own. -/
theorem came_new (w : World) (cs : Array Value) (t : TypeId) (d : List (List UInt8)) (n g : Nat) (hcs : cs.toList = lv d) (hn : n = d.length) (hg : g = w.heap.size) (hd : d.length ≤ 1000) (he : ∀ s ∈ d, s.length ≤ 9223372036854775807) : Came (w.alloc (.cells cs t)) (some ⟨g, 0, none⟩) n d := by
  subst hn
  have hsz : cs.size = d.length := by rw [← Array.length_toList, hcs, lv_length]
  exact ⟨hcs ▸ rd_new w cs t d.length _ hsz hg, (fun h => by cases h), by omega, he, Nat.le_refl _, by omega⟩
set_option maxRecDepth 3000 in
theorem lrd_new (ok : Nat → Prop) (w : World) (cs : Array Value) (t : TypeId) (d : List (List UInt8)) (n g : Nat) (hcs : cs.toList = lv d) (hn : n = d.length) (hg : g = w.heap.size) (hd : d.length ≤ 1000) (ho : ok g) : LRd ok (w.alloc (.cells cs t)) (some ⟨g, 0, none⟩) n d := by
  subst hn
  have hsz : cs.size = d.length := by rw [← Array.length_toList, hcs, lv_length]
  exact ⟨hcs ▸ rd_new w cs t d.length _ hsz hg, (fun h => by cases h), Nat.le_refl _, by omega, fun _ a e => by cases e; exact ho⟩
set_option maxRecDepth 3000 in
theorem lrd_none (ok : Nat → Prop) (w : World) : LRd ok w none 0 [] := ⟨⟨rfl, fun h => by simp at h⟩, (fun _ => ⟨rfl, rfl⟩), Nat.le_refl _, by simp, fun h => by simp at h⟩
set_option maxRecDepth 3000 in
theorem cA : (#[.string { data := #[97] }, .string { data := #[98] }] : Array Value).toList = lv lA := rfl
set_option maxRecDepth 3000 in
theorem cX : (#[.string { data := #[120] }] : Array Value).toList = lv lX := rfl
set_option maxRecDepth 3000 in
theorem cB : (#[.string { data := #[98] }] : Array Value).toList = lv lB := rfl
set_option maxRecDepth 3000 in
theorem sA : ∀ s ∈ lA, s.length ≤ 9223372036854775807 := by decide
set_option maxRecDepth 3000 in
theorem sX : ∀ s ∈ lX, s.length ≤ 9223372036854775807 := by decide
set_option maxRecDepth 3000 in
theorem zA : lcheckV lA = 0 := by kernel_rfl
set_option maxRecDepth 3000 in
theorem small0 : ∀ s ∈ ([] : List (List UInt8)), s.length ≤ 9223372036854775807 := fun _ h => by cases h
set_option maxRecDepth 3000 in
theorem i64_0 : I64 0 := by unfold I64; omega
set_option maxRecDepth 3000 in
theorem same2 : sameL lA lA = true := sameL_self _
set_option maxRecDepth 3000 in
theorem same1 : sameL lB lB = true := sameL_self _
set_option maxRecDepth 3000 in
theorem hn2 : (2 : Int) = lA.length := rfl
set_option maxRecDepth 3000 in
theorem hn1 : (1 : Int) = lB.length := rfl
set_option maxRecDepth 3000 in
theorem same_eq (A B : Option Addr) (ca cb na nb : Nat) (d : List (List UInt8)) (w : World) (hA : Rd w 1 A d.length (lv d)) (hB : Rd w 1 B d.length (lv d)) (hc : d.length ≤ 1000000) (ha : na = d.length) (hb : nb = d.length) : Calls Try.prog 29 #[.slice A na ca, .slice B nb cb] w fun e w' => e = .returned (.bool true) ∧ Grows w w' := by
  have := lawLines_at A B ca cb na nb d d w hA hB (by omega) (by omega) ha hb
  rwa [sameL_self] at this
set_option maxRecDepth 3000 in
theorem del_cell {w : World} {A : Option Addr} {d : Spx} {n : Int} (h : Rd w 3 A [d].length ([d].flatMap Spx.cells)) (hd : d.del = n) : ∃ b o, A = some ⟨b, o, none⟩ ∧ b < w.heap.size ∧ w.cell? ⟨b, o + 1, none⟩ = some (.int .i64 n) := by
  subst hd
  obtain ⟨b, o, e, hb, hc⟩ := h.2 (by simp)
  exact ⟨b, o, e, hb, hc 1 _ rfl⟩
set_option maxRecDepth 3000 in
theorem e8 : coAbort lv7 = lv8 := rfl
set_option maxRecDepth 3000 in
set_option maxHeartbeats 4000000 in
theorem lives19 (w : World) : Calls Try.prog 8 #[] w fun e w' => e = .returned (.bool true) ∧ Grows w w' := by
  go_enter Try.func8, Try.ntmps8
  go_wp2_with fail
  (with_reducible refine (co_new (some ⟨w.heap.size, 0, none⟩) 2 2 lA _ rfl (came_new w _ _ lA 2 w.heap.size cA rfl rfl (by decide) sA) zA (by decide) (fun _ => False) (fun _ h => h.elim) w ?_).mono ?_)
  · exact (Grows.refl _).alloc _
  rintro e w0 ⟨g, K0, rfl, hC, -, -⟩
  have C0 : Hid (Co w (fun _ => False) K0 g lv0 w0) := Lib.hid hC
  clear hC
  go_wp2_with fail
  (with_reducible refine (co_cur (C0.out.grows (by repeat' first | exact Grows.refl _ | refine Grows.more ?_ _ | refine Grows.alloc ?_ _ | refine Grows.drew ?_)) 2 n0).mono ?_)
  rintro e wn ⟨rfl, hw⟩
  have hw := hw.symm
  subst hw
  go_wp2_with fail
  (with_reducible refine (co_splice (okI := fun _ => True) (C0.out.grows (by repeat' first | exact Grows.refl _ | refine Grows.more ?_ _ | refine Grows.alloc ?_ _ | refine Grows.drew ?_)) 0 0 none 0 0 [] rfl i64_0 i64_0 (lrd_none _ _) small0 (by decide) did0 lv0 2 e0).mono ?_)
  rintro e w1 ⟨rfl, K1, hC, -⟩
  have C1 : Hid (Co w (fun _ => False) K1 g lv0 w1) := Lib.hid hC
  clear hC
  go_wp2_with fail
  (with_reducible refine (co_begin (C1.out.grows (by repeat' first | exact Grows.refl _ | refine Grows.more ?_ _ | refine Grows.alloc ?_ _ | refine Grows.drew ?_)) lv1 0 e1).mono ?_)
  rintro e w2 ⟨rfl, K2, hC, -⟩
  have C2 : Hid (Co w (fun _ => False) K2 g lv1 w2) := Lib.hid hC
  clear hC
  go_wp2_with fail
  (with_reducible refine (co_splice (okI := fun _ => True) (C2.out.grows (by repeat' first | exact Grows.refl _ | refine Grows.more ?_ _ | refine Grows.alloc ?_ _ | refine Grows.drew ?_)) 0 1 none 0 0 [] rfl i64_0 i64_one (lrd_none _ _) small0 (by decide) did1 lv2 0 e2).mono ?_)
  rintro e w3 ⟨rfl, K3, hC, -⟩
  have C3 : Hid (Co w (fun _ => False) K3 g lv2 w3) := Lib.hid hC
  clear hC
  go_wp2_with fail
  (with_reducible refine (co_cur (C3.out.grows (by repeat' first | exact Grows.refl _ | refine Grows.more ?_ _ | refine Grows.alloc ?_ _ | refine Grows.drew ?_)) 1 n2).mono ?_)
  rintro e wn ⟨rfl, hw⟩
  have hw := hw.symm
  subst hw
  go_wp2_with fail
  (with_reducible refine (co_n (C3.out.grows (by repeat' first | exact Grows.refl _ | refine Grows.more ?_ _ | refine Grows.alloc ?_ _ | refine Grows.drew ?_)) 1 m2).mono ?_)
  rintro e wn ⟨rfl, hw⟩
  have hw := hw.symm
  subst hw
  go_wp2_with fail
  (with_reducible refine (co_end (C3.out.grows (by repeat' first | exact Grows.refl _ | refine Grows.more ?_ _ | refine Grows.alloc ?_ _ | refine Grows.drew ?_)) lv3 _ e3 1 rfl).mono ?_)
  rintro e w4 ⟨A1, c1, D1, rfl, -, -, -, hC, -⟩
  have C4 : Hid (Co w (fun _ => False) K3 g lv3 w4) := Lib.hid hC
  clear hC
  go_wp2_with fail
  (with_reducible refine (co_dirty (C4.out.grows (by repeat' first | exact Grows.refl _ | refine Grows.more ?_ _ | refine Grows.alloc ?_ _ | refine Grows.drew ?_)) true d3).mono ?_)
  rintro e wn ⟨rfl, hw⟩
  have hw := hw.symm
  subst hw
  go_wp2_with fail
  (with_reducible refine (co_undo (C4.out.grows (by repeat' first | exact Grows.refl _ | refine Grows.more ?_ _ | refine Grows.alloc ?_ _ | refine Grows.drew ?_)) lv4 0 _ e4 e4l 1 rfl).mono ?_)
  rintro e w5 ⟨A2, c2, D2, rfl, hD2, hS2, hC, -⟩
  have C5 : Hid (Co w (fun _ => False) K3 g lv4 w5) := Lib.hid hC
  clear hC
  obtain ⟨d2, rfl, hd2⟩ := map_one hD2
  have S5 := Lib.hid hS2
  have D5 : Hid (d2.del = 1) := Lib.hid (by have := congrArg SpV.del hd2; exact this)
  clear hD2 hS2 hd2
  go_wp2_with fail
  (with_reducible refine (co_lines (C5.out.grows (by repeat' first | exact Grows.refl _ | refine Grows.more ?_ _ | refine Grows.alloc ?_ _ | refine Grows.drew ?_)) lA l4 2 hn2 2 rfl).mono ?_)
  rintro e w6 ⟨A3, c3, rfl, hl3, hg3⟩
  have S6 := Lib.hid ((S5.out.grows (by repeat' first | exact Grows.refl _ | refine Grows.more ?_ _ | refine Grows.alloc ?_ _ | refine Grows.drew ?_)).grows hg3)
  have C6 := Lib.hid ((C5.out.grows (by repeat' first | exact Grows.refl _ | refine Grows.more ?_ _ | refine Grows.alloc ?_ _ | refine Grows.drew ?_)).grows hg3)
  have L6 := Lib.hid hl3
  clear hl3 hg3 S5 C5
  go_wp2_with fail
  (with_reducible refine (co_undo (C6.out.grows (by repeat' first | exact Grows.refl _ | refine Grows.more ?_ _ | refine Grows.alloc ?_ _ | refine Grows.drew ?_)) lv5 0 _ e5 e5l 1 rfl).mono ?_)
  rintro e w7 ⟨A4, c4, D4, rfl, -, -, hC, hst⟩
  have C7 : Hid (Co w (fun _ => False) K3 g lv5 w7) := Lib.hid hC
  have S7 := Lib.hid (S6.out.step hst)
  have L7 := Lib.hid (L6.out.step hst)
  clear hC hst S6 L6 C6
  obtain ⟨b, o, rfl, hb, q⟩ := del_cell S7.out.rd D5.out
  have ib : InHeap b w7 := hb
  clear hb
  go_wp2_with fail
  (with_reducible refine (same_eq A3 _ c3 2 2 2 lA _ (L7.out.rd.grows (by repeat' first | exact Grows.refl _ | refine Grows.more ?_ _ | refine Grows.alloc ?_ _ | refine Grows.drew ?_)) (lrd_new (fun _ => True) _ _ _ lA 2 _ cA rfl rfl (by decide) trivial).rd (by decide) rfl rfl).mono ?_)
  rintro e w8 ⟨rfl, hg⟩
  have C8 := Lib.hid ((C7.out.grows (by repeat' first | exact Grows.refl _ | refine Grows.more ?_ _ | refine Grows.alloc ?_ _ | refine Grows.drew ?_)).grows hg)
  clear hg S7 L7 C7
  go_wp2_with fail
  (with_reducible refine (co_begin (C8.out.grows (by repeat' first | exact Grows.refl _ | refine Grows.more ?_ _ | refine Grows.alloc ?_ _ | refine Grows.drew ?_)) lv6 0 e6).mono ?_)
  rintro e w9 ⟨rfl, K9, hC, -⟩
  have C9 : Hid (Co w (fun _ => False) K9 g lv6 w9) := Lib.hid hC
  clear hC
  go_wp2_with fail
  (with_reducible refine (co_splice (okI := fun _ => True) (C9.out.grows (by repeat' first | exact Grows.refl _ | refine Grows.more ?_ _ | refine Grows.alloc ?_ _ | refine Grows.drew ?_)) 1 0 _ 1 1 lX rfl i64_one i64_0 (lrd_new (fun _ => True) _ _ _ lX 1 _ cX rfl rfl (by decide) trivial) sX (by decide) did6 lv7 0 e7).mono ?_)
  rintro e w10 ⟨rfl, K10, hC, -⟩
  have C10 : Hid (Co w (fun _ => False) K10 g lv7 w10) := Lib.hid hC
  clear hC
  go_wp2_with fail
  (with_reducible refine (co_abort (C10.out.grows (by repeat' first | exact Grows.refl _ | refine Grows.more ?_ _ | refine Grows.alloc ?_ _ | refine Grows.drew ?_))).mono ?_)
  rintro e w11 ⟨rfl, hC, -⟩
  have C11 : Hid (Co w (fun _ => False) K10 g lv8 w11) := Lib.hid hC
  clear hC
  go_wp2_with fail
  (with_reducible refine (co_n (C11.out.grows (by repeat' first | exact Grows.refl _ | refine Grows.more ?_ _ | refine Grows.alloc ?_ _ | refine Grows.drew ?_)) 1 m8).mono ?_)
  rintro e w12 ⟨rfl, hw⟩
  have hw := hw.symm
  subst hw
  go_wp2_with fail
  (with_reducible refine (co_lines (C11.out.grows (by repeat' first | exact Grows.refl _ | refine Grows.more ?_ _ | refine Grows.alloc ?_ _ | refine Grows.drew ?_)) lB l8 1 hn1 1 rfl).mono ?_)
  rintro e w13 ⟨A5, c5, rfl, hl5, hg5⟩
  have C13 := Lib.hid ((C11.out.grows (by repeat' first | exact Grows.refl _ | refine Grows.more ?_ _ | refine Grows.alloc ?_ _ | refine Grows.drew ?_)).grows hg5)
  have L13 := Lib.hid hl5
  clear hl5 hg5
  go_wp2_with fail
  (with_reducible refine (same_eq A5 _ c5 1 1 1 lB _ (L13.out.rd.grows (by repeat' first | exact Grows.refl _ | refine Grows.more ?_ _ | refine Grows.alloc ?_ _ | refine Grows.drew ?_)) (lrd_new (fun _ => True) _ _ _ lB 1 _ cB rfl rfl (by decide) trivial).rd (by decide) rfl rfl).mono ?_)
  rintro e w14 ⟨rfl, hg⟩
  have G14 := Lib.hid ((C13.out.grows (by repeat' first | exact Grows.refl _ | refine Grows.more ?_ _ | refine Grows.alloc ?_ _ | refine Grows.drew ?_)).grown.trans hg)
  clear hg
  go_wp2_with fail
  go_ret
  exact ⟨rfl, G14.out⟩
end Go.Proofs.Ythanghgfakibnaa
