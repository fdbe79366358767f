/-
  Registers: the walk of regs.Join where neither text is whole.
-/
import Derived.Test.YtlhdbaaokgdabaaRegsJoin
namespace Go.Proofs.Ytlhdbaaokgdabaa
open Go.RowKit

theorem alloc_more (w : World) (o : Obj) (m : More) : more (w.alloc o) m = more w ⟨#[o] ++ m.1, m.2⟩ := by
  unfold more World.alloc
  congr 1
  show w.heap.push o ++ m.1 = w.heap ++ (#[o] ++ m.1)
  rw [Array.push_eq_append, Array.append_assoc]
theorem chg_boxes3 {w : World} (a b a2 b2 c : Obj) (m : More) : Chg (fun x => x = w.heap.size ∨ x = w.heap.size + 1) (more (((w.alloc a).alloc b).alloc c) m) (more (((w.alloc a2).alloc b2).alloc c) m) := by
  rw [alloc_more _ c, alloc_more _ c]
  exact chg_boxes a b a2 b2 _
theorem some_none {a : Addr} {p : Prop} : some a = none → p := fun h => by cases h
theorem rd_one_mid (w : World) (s : List UInt8) (t : TypeId) (o : Obj) (g : Nat) (hg : g = w.heap.size) : Rd ((w.alloc (.cells #[.string (tx s)] t)).alloc o).drew 1 (some ⟨g, 0, none⟩) [s].length (lv [s]) := (rd_new w #[.string (tx s)] t 1 g rfl hg).grows (((Grows.refl _).alloc _).drew)
set_option maxHeartbeats 4000000 in
/-- The last line of one with the first one of the other. -/
theorem joinD_any {ok ok' : Nat → Prop} (A B : Option Addr) (ca cb : Nat) (d0 d1 : List (List UInt8)) (x y : List UInt8) (w : World) (ha : LRd ok w A ca (d0 ++ [x])) (hb : LRd ok' w B cb (y :: d1)) (hsum : d0.length + (1 + d1.length) ≤ 5000000) (hxy : x.length + y.length ≤ 1000000) :
    Calls Try.prog 17 #[.agg #[.slice A (d0.length + 1) ca, .bool false], .agg #[.slice B (d1.length + 1) cb, .bool false]] w (NewReg ⟨d0 ++ ([x ++ y] ++ d1), false⟩ w) := by
  have hra := ha.rd
  have hrb := hb.rd
  have la := ha.le
  have lb := hb.le
  simp only [List.length_append, List.length_cons, List.length_nil, Nat.zero_add] at la lb
  obtain ⟨b1, o1, rfl, hb1, hx⟩ := hra.line d0.length (by simp)
  obtain ⟨b2, o2, rfl, hb2, hy⟩ := hrb.line 0 (by simp)
  have hx : w.cell? ⟨b1, o1 + d0.length, none⟩ = some (.string (tx x)) := by simpa using hx
  have hy : w.cell? ⟨b2, o2, none⟩ = some (.string (tx y)) := by simpa using hy
  have hb1 : InHeap b1 w := hb1
  have hb2 : InHeap b2 w := hb2
  have hT : Hid (Rd w 1 (some ⟨b1, o1, none⟩) d0.length (lv d0)) := Lib.hid (by have := rd_take hra d0.length d0.length (by simp); simpa using this)
  have hD : Hid (Rd w 1 (if cb = 1 then some ⟨b2, o2, none⟩ else some ⟨b2, o2 + 1, none⟩) d1.length (lv d1)) := Lib.hid (by
    split
    · obtain rfl : d1 = [] := List.eq_nil_of_length_eq_zero (by omega)
      exact Rd.nil_
    · have := rd_drop hrb 1 d1.length (by simp); simpa [Addr.add] using this)
  have hDn : Hid ((if cb = 1 then some (⟨b2, o2, none⟩ : Addr) else some ⟨b2, o2 + 1, none⟩) = none → d1.length = 0 ∧ cb - 1 = 0) := Lib.hid (by split <;> intro h <;> cases h)
  clear ha hb hra hrb
  obtain ⟨A3, hA3⟩ : ∃ A3 : Option Addr, (if cb = 1 then some ⟨b2, o2, none⟩ else some ⟨b2, o2 + 1, none⟩) = A3 := ⟨_, rfl⟩
  rw [hA3] at hD hDn
  have h1' : ((d0.length : Int) + 1 == 0) = false := by rw [beq_eq_false_iff_ne]; omega
  have h2' : ((d1.length : Int) + 1 == 0) = false := by rw [beq_eq_false_iff_ne]; omega
  have k0 : IntKind.i64.wrap ((d0.length : Int) + 1 - 1) = d0.length := by rw [IntWalk.i64_left]; unfold wrap64; omega
  have k1 : IntKind.i64.wrap (d0.length : Int) = d0.length := by rw [IntWalk.i64_left]; unfold wrap64; omega
  have k2 : (0 : Int) ≤ (d0.length : Int) := by omega
  have k3 : (d0.length : Int) < (d0.length : Int) + 1 := by omega
  have k4 : (d0.length : Int) ≤ (ca : Int) := by omega
  have k5 : (0 : Int) < (d1.length : Int) + 1 := by omega
  have hs3 : d0.length + ([x ++ y].length + d1.length) ≤ 5000000000000 := by simp; omega
  have HK := Lib.hid (fun W g A2 => concat3_at (some ⟨b1, o1, none⟩) A2 A3 ca 1 (cb - 1) d0.length 1 d1.length d0 [x ++ y] d1 W g rfl rfl rfl hs3)
  have k7 : ¬ 9223372036854775807 < x.length + y.length := by omega
  have k8 : tx x ++ tx y = tx (x ++ y) := tx_append x y
  clear hxy
  have k6 : (1 : Int) ≤ (d1.length : Int) + 1 := by omega
  go_enter Try.func17, Try.ntmps17
  go_wp2_with fail
  go_region_held3 (fun w' => w'.cell? ⟨w.heap.size, 0, none⟩ = some (.slice (some ⟨b1, o1, none⟩) (d0.length + 1) ca) ∧ w'.cell? ⟨w.heap.size + 1, 0, none⟩ = some (.slice (some ⟨b2, o2, none⟩) (d1.length + 1) cb) ∧ w'.cell? ⟨b1, o1 + d0.length, none⟩ = some (.string (tx x)) ∧ w'.cell? ⟨b2, o2, none⟩ = some (.string (tx y)))
    (first | (simp [go_sem, hb1, hb2, hx, hy]; done))
    (first | (go_at_call 29; (refine Calls.mono (HK.out _ _ (some ⟨w.heap.size + 1 + 1 + 1, 0, none⟩) ?_ ?_ ?_ ?_) ?_); (exact rd_new_drew _ #[.slice (some ⟨b1, o1, none⟩) d0.length ca, .slice (some ⟨w.heap.size + 1 + 1 + 1, 0, none⟩) 1 1, .slice A3 d1.length (cb - 1)] _ 3 _ rfl (by simp)); (exact ⟨hT.out.grows (by repeat' first | exact Grows.refl _ | refine Grows.more ?_ _ | refine Grows.alloc ?_ _ | refine Grows.drew ?_), some_none⟩); (exact ⟨rd_one_mid _ (x ++ y) _ _ _ (by simp), some_none⟩); (exact ⟨hD.out.grows (by repeat' first | exact Grows.refl _ | refine Grows.more ?_ _ | refine Grows.alloc ?_ _ | refine Grows.drew ?_), hDn.out⟩); rintro e w1 ⟨A1, c1, rfl, hL, m1, rfl⟩))
  go_wp2_with fail
  exact bodyPost_ret (v := .agg #[.slice A1 (d0 ++ ([x ++ y] ++ d1)).length c1, .bool false]) (by simp [results, Try.results17, go_sem]) rfl ⟨A1, c1, rfl, ((hL.chg (chg_boxes3 _ _ _ _ _ _) (fun b _ hb hp => by simp at hb hp; omega)).mono (fun b _ hb => by simp at hb; omega)), by repeat' first | exact Grows.refl _ | refine Grows.more ?_ _ | refine Grows.alloc ?_ _⟩
end Go.Proofs.Ytlhdbaaokgdabaa
