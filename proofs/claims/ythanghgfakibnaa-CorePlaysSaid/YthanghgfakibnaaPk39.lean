/-
  Several texts of the proof: CoreLives, CoreViews.
-/
import Derived.Test.YthanghgfakibnaaPk35
import Derived.Test.YthanghgfakibnaaPk10
import Derived.Test.YthanghgfakibnaaPk32
import Derived.Test.YthanghgfakibnaaPk38
/-
  Chapter 19's lives, walked.
-/
namespace Go.Proofs.Ythanghgfakibnaa
open Go.RowKit

def lA : List (List UInt8) := [[97], [98]]
def lX : List (List UInt8) := [[120]]
def lB : List (List UInt8) := [[98]]
def lv0 : CoV := coNew lA
def lv1 : CoV := (coBegin lv0).1
def lv2 : CoV := (coSplice lv1 ⟨0, 1, []⟩).1
def lv3 : CoV := (coEnd lv2).1
def lv4 : CoV := (coUndo lv3).1
def lv5 : CoV := (coUndo lv4).1
def lv6 : CoV := (coBegin lv5).1
def lv7 : CoV := (coSplice lv6 ⟨1, 0, lX⟩).1
def lv8 : CoV := coAbort lv7
set_option maxRecDepth 3000 in
theorem e0 : coSplice lv0 ⟨0, 0, []⟩ = (lv0, 2) := by kernel_rfl
set_option maxRecDepth 3000 in
theorem e1 : coBegin lv0 = (lv1, 0) := by kernel_rfl
set_option maxRecDepth 3000 in
theorem e2 : coSplice lv1 ⟨0, 1, []⟩ = (lv2, 0) := by kernel_rfl
set_option maxRecDepth 3000 in
theorem e3 : coEnd lv2 = (lv3, [⟨0, 1, []⟩]) := by kernel_rfl
set_option maxRecDepth 3000 in
theorem e4 : coUndo lv3 = (lv4, 0) := by kernel_rfl
set_option maxRecDepth 3000 in
theorem e4l : undoL lv3 = [⟨0, 1, lA⟩] := by kernel_rfl
set_option maxRecDepth 3000 in
theorem e5 : coUndo lv4 = (lv5, 0) := by kernel_rfl
set_option maxRecDepth 3000 in
theorem e5l : undoL lv4 = [⟨0, 2, lB⟩] := by kernel_rfl
set_option maxRecDepth 3000 in
theorem e6 : coBegin lv5 = (lv6, 0) := by kernel_rfl
set_option maxRecDepth 3000 in
theorem e7 : coSplice lv6 ⟨1, 0, lX⟩ = (lv7, 0) := by kernel_rfl
set_option maxRecDepth 3000 in
theorem n0 : lv0.s.cur = 2 := by kernel_rfl
set_option maxRecDepth 3000 in
theorem n2 : lv2.s.cur = 1 := by kernel_rfl
set_option maxRecDepth 3000 in
theorem m2 : (lv2.s.L.length : Int) = 1 := by kernel_rfl
set_option maxRecDepth 3000 in
theorem d3 : lv3.dirty = true := by kernel_rfl
set_option maxRecDepth 3000 in
theorem l4 : lv4.s.L = lA := by kernel_rfl
set_option maxRecDepth 3000 in
theorem l8 : lv8.s.L = lB := by kernel_rfl
set_option maxRecDepth 3000 in
theorem m8 : (lv8.s.L.length : Int) = 1 := by kernel_rfl
set_option maxRecDepth 3000 in
theorem did1 : lv1.did.length ≤ 1000000 := by decide
set_option maxRecDepth 3000 in
theorem did0 : lv0.did.length ≤ 1000000 := by decide
set_option maxRecDepth 3000 in
theorem did6 : lv6.did.length ≤ 1000000 := by decide
set_option maxRecDepth 3000 in
/-- A list in a block of its own. -/
theorem came_new (w : World) (cs : Array Value) (t : TypeId) (d : List (List UInt8)) (n g : Nat) (hcs : cs.toList = lv d) (hn : n = d.length) (hg : g = w.heap.size) (hd : d.length ≤ 1000) (he : ∀ s ∈ d, s.length ≤ 9223372036854775807) : Came (w.alloc (.cells cs t)) (some ⟨g, 0, none⟩) n d := by
  subst hn
  have hsz : cs.size = d.length := by rw [← Array.length_toList, hcs, lv_length]
  exact ⟨hcs ▸ rd_new w cs t d.length _ hsz hg, (fun h => by cases h), by omega, he, Nat.le_refl _, by omega⟩
set_option maxRecDepth 3000 in
theorem lrd_new (ok : Nat → Prop) (w : World) (cs : Array Value) (t : TypeId) (d : List (List UInt8)) (n g : Nat) (hcs : cs.toList = lv d) (hn : n = d.length) (hg : g = w.heap.size) (hd : d.length ≤ 1000) (ho : ok g) : LRd ok (w.alloc (.cells cs t)) (some ⟨g, 0, none⟩) n d := by
  subst hn
  have hsz : cs.size = d.length := by rw [← Array.length_toList, hcs, lv_length]
  exact ⟨hcs ▸ rd_new w cs t d.length _ hsz hg, (fun h => by cases h), Nat.le_refl _, by omega, fun _ a e => by cases e; exact ho⟩
set_option maxRecDepth 3000 in
theorem lrd_none (ok : Nat → Prop) (w : World) : LRd ok w none 0 [] := ⟨⟨rfl, fun h => by simp at h⟩, (fun _ => ⟨rfl, rfl⟩), Nat.le_refl _, by simp, fun h => by simp at h⟩
set_option maxRecDepth 3000 in
theorem cA : (#[.string { data := #[97] }, .string { data := #[98] }] : Array Value).toList = lv lA := rfl
set_option maxRecDepth 3000 in
theorem cX : (#[.string { data := #[120] }] : Array Value).toList = lv lX := rfl
set_option maxRecDepth 3000 in
theorem cB : (#[.string { data := #[98] }] : Array Value).toList = lv lB := rfl
set_option maxRecDepth 3000 in
theorem sA : ∀ s ∈ lA, s.length ≤ 9223372036854775807 := by decide
set_option maxRecDepth 3000 in
theorem sX : ∀ s ∈ lX, s.length ≤ 9223372036854775807 := by decide
set_option maxRecDepth 3000 in
theorem zA : lcheckV lA = 0 := by kernel_rfl
set_option maxRecDepth 3000 in
theorem small0 : ∀ s ∈ ([] : List (List UInt8)), s.length ≤ 9223372036854775807 := fun _ h => by cases h
set_option maxRecDepth 3000 in
theorem i64_0 : I64 0 := by unfold I64; omega
set_option maxRecDepth 3000 in
theorem same2 : sameL lA lA = true := sameL_self _
set_option maxRecDepth 3000 in
theorem same1 : sameL lB lB = true := sameL_self _
set_option maxRecDepth 3000 in
theorem hn2 : (2 : Int) = lA.length := rfl
set_option maxRecDepth 3000 in
theorem hn1 : (1 : Int) = lB.length := rfl
set_option maxRecDepth 3000 in
theorem same_eq (A B : Option Addr) (ca cb na nb : Nat) (d : List (List UInt8)) (w : World) (hA : Rd w 1 A d.length (lv d)) (hB : Rd w 1 B d.length (lv d)) (hc : d.length ≤ 1000000) (ha : na = d.length) (hb : nb = d.length) : Calls Try.prog 29 #[.slice A na ca, .slice B nb cb] w fun e w' => e = .returned (.bool true) ∧ Grows w w' := by
  have := lawLines_at A B ca cb na nb d d w hA hB (by omega) (by omega) ha hb
  rwa [sameL_self] at this
set_option maxRecDepth 3000 in
theorem del_cell {w : World} {A : Option Addr} {d : Spx} {n : Int} (h : Rd w 3 A [d].length ([d].flatMap Spx.cells)) (hd : d.del = n) : ∃ b o, A = some ⟨b, o, none⟩ ∧ b < w.heap.size ∧ w.cell? ⟨b, o + 1, none⟩ = some (.int .i64 n) := by
  subst hd
  obtain ⟨b, o, e, hb, hc⟩ := h.2 (by simp)
  exact ⟨b, o, e, hb, hc 1 _ rfl⟩
set_option maxRecDepth 3000 in
theorem e8 : coAbort lv7 = lv8 := rfl
set_option maxRecDepth 3000 in
set_option maxHeartbeats 4000000 in
theorem lives19 (w : World) : Calls Try.prog 8 #[] w fun e w' => e = .returned (.bool true) ∧ Grows w w' := by
  go_enter Try.func8, Try.ntmps8
  go_wp2_with fail
  (with_reducible refine (co_new (some ⟨w.heap.size, 0, none⟩) 2 2 lA _ rfl (came_new w _ _ lA 2 w.heap.size cA rfl rfl (by decide) sA) zA (by decide) (fun _ => False) (fun _ h => h.elim) w ?_).mono ?_)
  · exact (Grows.refl _).alloc _
  rintro e w0 ⟨g, K0, rfl, hC, -, -⟩
  have C0 : Hid (Co w (fun _ => False) K0 g lv0 w0) := Lib.hid hC
  clear hC
  go_wp2_with fail
  (with_reducible refine (co_cur (C0.out.grows (by repeat' first | exact Grows.refl _ | refine Grows.more ?_ _ | refine Grows.alloc ?_ _ | refine Grows.drew ?_)) 2 n0).mono ?_)
  rintro e wn ⟨rfl, hw⟩
  have hw := hw.symm
  subst hw
  go_wp2_with fail
  (with_reducible refine (co_splice (okI := fun _ => True) (C0.out.grows (by repeat' first | exact Grows.refl _ | refine Grows.more ?_ _ | refine Grows.alloc ?_ _ | refine Grows.drew ?_)) 0 0 none 0 0 [] rfl i64_0 i64_0 (lrd_none _ _) small0 (by decide) did0 lv0 2 e0).mono ?_)
  rintro e w1 ⟨rfl, K1, hC, -⟩
  have C1 : Hid (Co w (fun _ => False) K1 g lv0 w1) := Lib.hid hC
  clear hC
  go_wp2_with fail
  (with_reducible refine (co_begin (C1.out.grows (by repeat' first | exact Grows.refl _ | refine Grows.more ?_ _ | refine Grows.alloc ?_ _ | refine Grows.drew ?_)) lv1 0 e1).mono ?_)
  rintro e w2 ⟨rfl, K2, hC, -⟩
  have C2 : Hid (Co w (fun _ => False) K2 g lv1 w2) := Lib.hid hC
  clear hC
  go_wp2_with fail
  (with_reducible refine (co_splice (okI := fun _ => True) (C2.out.grows (by repeat' first | exact Grows.refl _ | refine Grows.more ?_ _ | refine Grows.alloc ?_ _ | refine Grows.drew ?_)) 0 1 none 0 0 [] rfl i64_0 i64_one (lrd_none _ _) small0 (by decide) did1 lv2 0 e2).mono ?_)
  rintro e w3 ⟨rfl, K3, hC, -⟩
  have C3 : Hid (Co w (fun _ => False) K3 g lv2 w3) := Lib.hid hC
  clear hC
  go_wp2_with fail
  (with_reducible refine (co_cur (C3.out.grows (by repeat' first | exact Grows.refl _ | refine Grows.more ?_ _ | refine Grows.alloc ?_ _ | refine Grows.drew ?_)) 1 n2).mono ?_)
  rintro e wn ⟨rfl, hw⟩
  have hw := hw.symm
  subst hw
  go_wp2_with fail
  (with_reducible refine (co_n (C3.out.grows (by repeat' first | exact Grows.refl _ | refine Grows.more ?_ _ | refine Grows.alloc ?_ _ | refine Grows.drew ?_)) 1 m2).mono ?_)
  rintro e wn ⟨rfl, hw⟩
  have hw := hw.symm
  subst hw
  go_wp2_with fail
  (with_reducible refine (co_end (C3.out.grows (by repeat' first | exact Grows.refl _ | refine Grows.more ?_ _ | refine Grows.alloc ?_ _ | refine Grows.drew ?_)) lv3 _ e3 1 rfl).mono ?_)
  rintro e w4 ⟨A1, c1, D1, rfl, -, -, -, hC, -⟩
  have C4 : Hid (Co w (fun _ => False) K3 g lv3 w4) := Lib.hid hC
  clear hC
  go_wp2_with fail
  (with_reducible refine (co_dirty (C4.out.grows (by repeat' first | exact Grows.refl _ | refine Grows.more ?_ _ | refine Grows.alloc ?_ _ | refine Grows.drew ?_)) true d3).mono ?_)
  rintro e wn ⟨rfl, hw⟩
  have hw := hw.symm
  subst hw
  go_wp2_with fail
  (with_reducible refine (co_undo (C4.out.grows (by repeat' first | exact Grows.refl _ | refine Grows.more ?_ _ | refine Grows.alloc ?_ _ | refine Grows.drew ?_)) lv4 0 _ e4 e4l 1 rfl).mono ?_)
  rintro e w5 ⟨A2, c2, D2, rfl, hD2, hS2, hC, -⟩
  have C5 : Hid (Co w (fun _ => False) K3 g lv4 w5) := Lib.hid hC
  clear hC
  obtain ⟨d2, rfl, hd2⟩ := map_one hD2
  have S5 := Lib.hid hS2
  have D5 : Hid (d2.del = 1) := Lib.hid (by have := congrArg SpV.del hd2; exact this)
  clear hD2 hS2 hd2
  go_wp2_with fail
  (with_reducible refine (co_lines (C5.out.grows (by repeat' first | exact Grows.refl _ | refine Grows.more ?_ _ | refine Grows.alloc ?_ _ | refine Grows.drew ?_)) lA l4 2 hn2 2 rfl).mono ?_)
  rintro e w6 ⟨A3, c3, rfl, hl3, hg3⟩
  have S6 := Lib.hid ((S5.out.grows (by repeat' first | exact Grows.refl _ | refine Grows.more ?_ _ | refine Grows.alloc ?_ _ | refine Grows.drew ?_)).grows hg3)
  have C6 := Lib.hid ((C5.out.grows (by repeat' first | exact Grows.refl _ | refine Grows.more ?_ _ | refine Grows.alloc ?_ _ | refine Grows.drew ?_)).grows hg3)
  have L6 := Lib.hid hl3
  clear hl3 hg3 S5 C5
  go_wp2_with fail
  (with_reducible refine (co_undo (C6.out.grows (by repeat' first | exact Grows.refl _ | refine Grows.more ?_ _ | refine Grows.alloc ?_ _ | refine Grows.drew ?_)) lv5 0 _ e5 e5l 1 rfl).mono ?_)
  rintro e w7 ⟨A4, c4, D4, rfl, -, -, hC, hst⟩
  have C7 : Hid (Co w (fun _ => False) K3 g lv5 w7) := Lib.hid hC
  have S7 := Lib.hid (S6.out.step hst)
  have L7 := Lib.hid (L6.out.step hst)
  clear hC hst S6 L6 C6
  obtain ⟨b, o, rfl, hb, q⟩ := del_cell S7.out.rd D5.out
  have ib : InHeap b w7 := hb
  clear hb
  go_wp2_with fail
  (with_reducible refine (same_eq A3 _ c3 2 2 2 lA _ (L7.out.rd.grows (by repeat' first | exact Grows.refl _ | refine Grows.more ?_ _ | refine Grows.alloc ?_ _ | refine Grows.drew ?_)) (lrd_new (fun _ => True) _ _ _ lA 2 _ cA rfl rfl (by decide) trivial).rd (by decide) rfl rfl).mono ?_)
  rintro e w8 ⟨rfl, hg⟩
  have C8 := Lib.hid ((C7.out.grows (by repeat' first | exact Grows.refl _ | refine Grows.more ?_ _ | refine Grows.alloc ?_ _ | refine Grows.drew ?_)).grows hg)
  clear hg S7 L7 C7
  go_wp2_with fail
  (with_reducible refine (co_begin (C8.out.grows (by repeat' first | exact Grows.refl _ | refine Grows.more ?_ _ | refine Grows.alloc ?_ _ | refine Grows.drew ?_)) lv6 0 e6).mono ?_)
  rintro e w9 ⟨rfl, K9, hC, -⟩
  have C9 : Hid (Co w (fun _ => False) K9 g lv6 w9) := Lib.hid hC
  clear hC
  go_wp2_with fail
  (with_reducible refine (co_splice (okI := fun _ => True) (C9.out.grows (by repeat' first | exact Grows.refl _ | refine Grows.more ?_ _ | refine Grows.alloc ?_ _ | refine Grows.drew ?_)) 1 0 _ 1 1 lX rfl i64_one i64_0 (lrd_new (fun _ => True) _ _ _ lX 1 _ cX rfl rfl (by decide) trivial) sX (by decide) did6 lv7 0 e7).mono ?_)
  rintro e w10 ⟨rfl, K10, hC, -⟩
  have C10 : Hid (Co w (fun _ => False) K10 g lv7 w10) := Lib.hid hC
  clear hC
  go_wp2_with fail
  (with_reducible refine (co_abort (C10.out.grows (by repeat' first | exact Grows.refl _ | refine Grows.more ?_ _ | refine Grows.alloc ?_ _ | refine Grows.drew ?_))).mono ?_)
  rintro e w11 ⟨rfl, hC, -⟩
  have C11 : Hid (Co w (fun _ => False) K10 g lv8 w11) := Lib.hid hC
  clear hC
  go_wp2_with fail
  (with_reducible refine (co_n (C11.out.grows (by repeat' first | exact Grows.refl _ | refine Grows.more ?_ _ | refine Grows.alloc ?_ _ | refine Grows.drew ?_)) 1 m8).mono ?_)
  rintro e w12 ⟨rfl, hw⟩
  have hw := hw.symm
  subst hw
  go_wp2_with fail
  (with_reducible refine (co_lines (C11.out.grows (by repeat' first | exact Grows.refl _ | refine Grows.more ?_ _ | refine Grows.alloc ?_ _ | refine Grows.drew ?_)) lB l8 1 hn1 1 rfl).mono ?_)
  rintro e w13 ⟨A5, c5, rfl, hl5, hg5⟩
  have C13 := Lib.hid ((C11.out.grows (by repeat' first | exact Grows.refl _ | refine Grows.more ?_ _ | refine Grows.alloc ?_ _ | refine Grows.drew ?_)).grows hg5)
  have L13 := Lib.hid hl5
  clear hl5 hg5
  go_wp2_with fail
  (with_reducible refine (same_eq A5 _ c5 1 1 1 lB _ (L13.out.rd.grows (by repeat' first | exact Grows.refl _ | refine Grows.more ?_ _ | refine Grows.alloc ?_ _ | refine Grows.drew ?_)) (lrd_new (fun _ => True) _ _ _ lB 1 _ cB rfl rfl (by decide) trivial).rd (by decide) rfl rfl).mono ?_)
  rintro e w14 ⟨rfl, hg⟩
  have G14 := Lib.hid ((C13.out.grows (by repeat' first | exact Grows.refl _ | refine Grows.more ?_ _ | refine Grows.alloc ?_ _ | refine Grows.drew ?_)).grown.trans hg)
  clear hg
  go_wp2_with fail
  go_ret
  exact ⟨rfl, G14.out⟩
end Go.Proofs.Ythanghgfakibnaa

/-
  Chapter 19: views in memory; splices that come in as an argument; a buffer's lines compared.
-/
namespace Go.Proofs.Ythanghgfakibnaa
open Go.ChangeShapes Go.WideShapes Go.ChangeAt Go.RowKit Go.Joins

section
variable (v : Value) (cur : Int) (ms : List Int) (last : Value)
set_option maxRecDepth 3000 in
theorem viC_list : (viC v cur ms last).toList = v :: .int .i64 cur :: (ms.map (Value.int .i64) ++ [last]) := by simp [viC, stC, MA]
set_option maxRecDepth 3000 in
theorem viC_0 : (viC v cur ms last)[0]? = some v := by rw [← Array.getElem?_toList, viC_list]; rfl
set_option maxRecDepth 3000 in
theorem viC_1 : (viC v cur ms last)[1]? = some (.int .i64 cur) := by rw [← Array.getElem?_toList, viC_list]; rfl
set_option maxRecDepth 3000 in
theorem viC_marks (h : ms.length = 26) : span (viC v cur ms last) 2 26 = MA ms := by
  apply Array.toList_inj.1
  simp only [span, viC_list, MA]
  exact List.take_left' (by simp [h])
end
/-- A view in a variable of its own. -/
structure ViAt (K : Nat → Prop) (w : World) (p : Nat) (A : Option Addr) (cap : Nat) (s : StV) : Prop where
  cells : ∃ last, blk w p = viC (.slice A s.L.length cap) s.cur s.ms (.string last)
  lines : LRd (fun b => ¬ K b) w A cap s.L
  out : ¬ K p
  many : s.ms.length = 26
section
variable {K K' : Nat → Prop} {w w' : World} {p : Nat} {A : Option Addr} {cap : Nat} {s : StV}
set_option maxRecDepth 3000 in
theorem ViAt.inh (h : ViAt K w p A cap s) : InHeap p w := by
  obtain ⟨l, e⟩ := h.cells
  exact Blk.inHeap e (by simp [viC_size])
set_option maxRecDepth 3000 in
theorem ViAt.step (h : ViAt K w p A cap s) (hs : Step K K' w w') : ViAt K' w' p A cap s := by
  have hb := h.inh
  obtain ⟨l, e⟩ := h.cells
  refine ⟨⟨l, (hs.chg.blk hb h.out).trans e⟩, h.lines.step hs, fun k => ?_, h.many⟩
  rcases hs.new p k with h1 | h1
  · exact h.out h1
  · exact absurd hb (Nat.not_lt.2 h1)
set_option maxRecDepth 3000 in
theorem ViAt.grows (h : ViAt K w p A cap s) (hg : Grows w w') : ViAt K w' p A cap s := h.step (Step.of_grows hg)
set_option maxRecDepth 3000 in
theorem ViAt.c0 (h : ViAt K w p A cap s) : w.cell? ⟨p, 0, none⟩ = some (.slice A s.L.length cap) := by
  obtain ⟨l, e⟩ := h.cells
  exact (Blk.cell e (by simp [viC_size]) 0).trans (viC_0 _ _ _ _)
set_option maxRecDepth 3000 in
theorem ViAt.c1 (h : ViAt K w p A cap s) : w.cell? ⟨p, 1, none⟩ = some (.int .i64 s.cur) := by
  obtain ⟨l, e⟩ := h.cells
  exact (Blk.cell e (by simp [viC_size]) 1).trans (viC_1 _ _ _ _)
set_option maxRecDepth 3000 in
/-- The marks' cells, as loadMarks_if asks for them. -/
theorem ViAt.marks (h : ViAt K w p A cap s) : span (blk w p) 2 26 = MA s.ms ∧ 28 ≤ (blk w p).size := by
  obtain ⟨l, e⟩ := h.cells
  rw [e]
  exact ⟨viC_marks _ _ _ _ h.many, by rw [viC_size, h.many]; omega⟩
set_option maxRecDepth 3000 in
theorem viAt_new {W : World} {X : Nat → Prop} {g : Nat} {c : CoV} {t : TypeId} (h : Co W X K g c w) (hl : LRd (fun b => ¬ K b) w A cap s.L) (hm : s.ms.length = 26) (last : ByteArray) : ViAt K (w.alloc (.cells (viC (.slice A s.L.length cap) s.cur s.ms (.string last)) t)) w.heap.size A cap s :=
  ⟨⟨last, blk_alloc_at _ _ _ _ rfl⟩, hl.grows ((Grows.refl _).alloc _), (fun k => by have := h.lt _ k; omega), hm⟩
end
set_option maxRecDepth 3000 in
theorem view_s {W w : World} {X K : Nat → Prop} {g : Nat} {c : CoV} (h : Co W X K g c w) (s : StV) (hs : c.s = s) : Calls Try.prog 10 #[.pointer (some ⟨g, 0, none⟩)] w fun e w' => ∃ A cap, e = .returned (.agg (viC (.slice A s.L.length cap) s.cur s.ms (.string (tx c.last)))) ∧ LRd (fun b => ¬ K b) w' A cap s.L ∧ Grows w w' := by
  subst hs
  exact co_view h
/-! ### splices that come in -/
structure SpsIn (w : World) (A : Option Addr) (S : List Spx) : Prop where
  rd : Rd w 3 A S.length (S.flatMap Spx.cells)
  len : S.length ≤ 9223372036854775807
  each : ∀ s ∈ S, I64 s.at_ ∧ I64 s.del ∧ Came w s.A s.cap s.ins
set_option maxRecDepth 3000 in
theorem SpsIn.grows {w w' : World} {A : Option Addr} {S : List Spx} (h : SpsIn w A S) (hg : Grows w w') : SpsIn w' A S := ⟨h.rd.grows hg, h.len, fun s hs => ⟨(h.each s hs).1, (h.each s hs).2.1, (h.each s hs).2.2.grows hg⟩⟩
set_option maxRecDepth 3000 in
theorem Rd.sp {w : World} {A : Option Addr} {L : List Spx} (h : Rd w 3 A L.length (L.flatMap Spx.cells)) (k : Nat) (hk : k < L.length) : ∃ b o, A = some ⟨b, o, none⟩ ∧ b < w.heap.size ∧ w.cell? ⟨b, o + k * 3, none⟩ = some (.int .i64 L[k].at_) ∧ w.cell? ⟨b, o + k * 3 + 1, none⟩ = some (.int .i64 L[k].del) ∧ w.cell? ⟨b, o + k * 3 + 2, none⟩ = some (.slice L[k].A L[k].ins.length L[k].cap) := by
  obtain ⟨b, o, rfl, hb, hc⟩ := h.2 (by omega)
  obtain ⟨h0, h1, h2⟩ := spx_cells L k hk
  exact ⟨b, o, rfl, hb, hc _ _ h0, by rw [Nat.add_assoc]; exact hc _ _ h1, by rw [Nat.add_assoc]; exact hc _ _ h2⟩
section
variable {H : Type} {enc : TypeId × Value → H} {W : World} {base b0 : Nat} {spare : Nat → Bool} {held : Bool}
set_option maxRecDepth 3000 in
theorem open_sps {v : Value} {d : DataW H} {p : List MemPlace} (hv : Value.okWide Try.prog W .any b0 31 v) (h : DataW.Trod enc Try.prog W base spare held 31 v d p) :
    ∃ (A : Option Addr) (L : List Spx) (cap : Nat), v = .slice A L.length cap ∧ SpsIn W A L := by
  obtain ⟨a, len, cap, rfl⟩ := okWide_slice Try.underlying31 hv
  obtain ⟨fuel, hf⟩ := h
  obtain ⟨A, n, cap, css, hcs, h1, h2, h3, h4, h5⟩ := open_rows Try.underlying31 (show Try.prog.cellsOf 24 = 3 by kernel_rfl) (by omega) hf
  have key : ∀ css : List (List Value), (∀ c ∈ css, c.length = 3 ∧ ∃ m y, DataW.trod enc Try.prog W base spare held m 24 c = some y) →
      ∃ L : List Spx, L.length = css.length ∧ css.flatten = L.flatMap Spx.cells ∧ ∀ s ∈ L, I64 s.at_ ∧ I64 s.del ∧ Came W s.A s.cap s.ins := by
    intro css
    induction css with
    | nil => intro _; exact ⟨[], rfl, rfl, by simp⟩
    | cons c css ih =>
      intro hc
      obtain ⟨L, e1, e2, e3⟩ := ih (fun x hx => hc x (by simp [hx]))
      obtain ⟨_, m, y, hy⟩ := hc c (by simp)
      obtain ⟨x, d, A, cap, l, rfl, hx, hd, hl⟩ := open_spx hy
      refine ⟨⟨x, d, A, cap, l⟩ :: L, by simp [e1], by simp [e2, Spx.cells], fun z hz => ?_⟩
      rcases List.mem_cons.1 hz with rfl | hz
      · exact ⟨hx, hd, hl⟩
      · exact e3 z hz
  obtain ⟨L, e1, e2, e3⟩ := key css h4
  have hn : n = L.length := by omega
  subst hn
  simp [Value.cells] at hcs
  obtain ⟨rfl, rfl, rfl⟩ := hcs
  unfold maxLen at h2
  exact ⟨a, L, cap, rfl, by rw [← e2]; exact h5, by omega, e3⟩
end
set_option maxRecDepth 3000 in
/-- All, at splices that were told. -/
theorem allS_any {K okD : Nat → Prop} (A A2 : Option Addr) (n cap n2 cap2 : Nat) (d d' : List (List UInt8)) (D : List Spx) (w : World) (hn : n = d.length) (hn2 : n2 = D.length) (hd : LRd K w A cap d) (h0 : lcheckV d = 0) (hD : Rd w 3 A2 D.length (D.flatMap Spx.cells)) (he : ∀ s ∈ D, LRd okD w s.A s.cap s.ins) (hg : ∀ s ∈ D, s.v.good) (hl : D.length ≤ 1000000) (hf : foldS d (D.map Spx.v) = (d', 0)) :
    Calls Try.prog 28 #[.slice A n cap, .slice A2 n2 cap2] w fun e w' => ∃ B c2, e = .returned (.tuple #[.slice B d'.length c2, .int .i64 0]) ∧ Rd w' 1 B d'.length (lv d') ∧ Grows w w' := by
  subst hn hn2
  have h2 := lcheckV_good.1 h0
  refine (spAll_any A A2 cap cap2 d D w hd.rd hd.nil (by omega) (fun t ht => by have := (h2.2 t ht).2; omega) hD hl (fun s hs => ?_)).mono ?_
  · have h3 := hg s hs
    have h4 := lcheckV_good.1 h3.ins
    have h5 : s.ins.length ≤ 2000 := h4.1
    exact ⟨h3.at_, h3.del, (he s hs).rd, (he s hs).nil, by omega, fun t ht => by have := (h4.2 t ht).2; omega⟩
  · rintro e w' ⟨v, rfl, ho, hg⟩
    rw [spAllV_map h0, hf] at ho ⊢
    obtain ⟨B, c2, rfl, -, -, hr, -, -⟩ := own_row ho
    exact ⟨B, c2, rfl, hr, hg⟩
set_option maxRecDepth 3000 in
theorem told_good {D : List Spx} {n : Nat} {e : List (List UInt8)} (h : D.map Spx.v = [⟨0, n, e⟩]) (he : lcheckV e = 0) (hn : n ≤ 1000000) : ∀ s ∈ D, s.v.good := by
  obtain ⟨d, rfl, hd⟩ := map_one h
  intro s hs
  simp at hs
  subst hs
  rw [hd]
  exact ⟨i64_0, i64_nat hn, he⟩
end Go.Proofs.Ythanghgfakibnaa
