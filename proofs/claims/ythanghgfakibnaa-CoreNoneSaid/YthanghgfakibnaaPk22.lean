/-
  Several texts of the proof: RegsJoin, RegsJoinD.
-/
import Derived.Test.YthanghgfakibnaaPk19
import Derived.Test.YthanghgfakibnaaPk21
/-
  Registers: the walk of regs.Join.
-/
namespace Go.Proofs.Ythanghgfakibnaa
open Go.RowKit

set_option maxRecDepth 3000 in
theorem rd_take {w : World} {A : Option Addr} {d : List (List UInt8)} (h : Rd w 1 A d.length (lv d)) (k n : Nat) (hk : n = (d.take k).length) : Rd w 1 A n (lv (d.take k)) := by
  subst hk
  refine ⟨by simp [lv], fun hn => ?_⟩
  have hl : 0 < d.length := by simp at hn; omega
  obtain ⟨b, o, e, hb, hc⟩ := h.2 hl
  refine ⟨b, o, e, hb, fun j u hu => hc j u ?_⟩
  rw [lv, List.map_take, List.map_take, List.getElem?_take] at hu
  split at hu
  · exact hu
  · cases hu
set_option maxRecDepth 3000 in
theorem rd_drop {w : World} {a : Addr} {d : List (List UInt8)} (h : Rd w 1 (some a) d.length (lv d)) (k n : Nat) (hn : n = d.length - k) : Rd w 1 (some (a.add k)) n (lv (d.drop k)) := by
  subst hn
  refine ⟨by simp [lv], fun hn => ?_⟩
  obtain ⟨b, o, e, hb, hc⟩ := h.2 (by omega)
  injection e with e
  subst e
  refine ⟨b, o + k, by simp [Addr.add], hb, fun j u hu => ?_⟩
  have := hc (k + j) u (by rw [lv, List.map_drop, List.map_drop, List.getElem?_drop] at hu; exact hu)
  rw [← Nat.add_assoc] at this
  exact this
set_option maxRecDepth 3000 in
theorem rd_new_drew (w : World) (cs : Array Value) (t : TypeId) (n g : Nat) (hn : cs.size = n) (hg : g = w.heap.size) : Rd (w.alloc (.cells cs t)).drew 1 (some ⟨g, 0, none⟩) n cs.toList := (rd_new w cs t n g hn hg).grows ((Grows.refl _).drew)
set_option maxRecDepth 3000 in
/-- Concat of lists that were laid in a block of their own. -/
theorem concat2_at (A1 A2 : Option Addr) (c1 c2 : Nat) (d1 d2 : List (List UInt8)) (W : World) (g : Nat) (hl : d1.length + d2.length ≤ 5000000000000) (hg : Rd W 1 (some ⟨g, 0, none⟩) 2 [.slice A1 d1.length c1, .slice A2 d2.length c2])
    (r1 : (Part.mk A1 c1 d1).ok W) (r2 : (Part.mk A2 c2 d2).ok W) : Calls Try.prog 75 #[.slice (some ⟨g, 0, none⟩) 2 2] W (NewL (d1 ++ d2) W) := by
  refine Calls.mono ?_ fun e w' h => NewLines.newL h
  have := concat_any g [⟨A1, c1, d1⟩, ⟨A2, c2, d2⟩] 2 2 W rfl hg ?_ ?_ (by simp)
  · simpa [partsL] using this
  · intro p hp
    simp only [List.mem_cons, List.not_mem_nil, or_false] at hp
    rcases hp with rfl | rfl
    · exact r1
    · exact r2
  · simp [partsL]; omega
set_option maxRecDepth 3000 in
theorem concat3_at (A1 A2 A3 : Option Addr) (c1 c2 c3 n1 n2 n3 : Nat) (d1 d2 d3 : List (List UInt8)) (W : World) (g : Nat) (h1 : n1 = d1.length) (h2 : n2 = d2.length) (h3 : n3 = d3.length) (hl : d1.length + (d2.length + d3.length) ≤ 5000000000000) (hg : Rd W 1 (some ⟨g, 0, none⟩) 3 [.slice A1 n1 c1, .slice A2 n2 c2, .slice A3 n3 c3])
    (r1 : (Part.mk A1 c1 d1).ok W) (r2 : (Part.mk A2 c2 d2).ok W) (r3 : (Part.mk A3 c3 d3).ok W) : Calls Try.prog 75 #[.slice (some ⟨g, 0, none⟩) 3 3] W (NewL (d1 ++ (d2 ++ d3)) W) := by
  refine Calls.mono ?_ fun e w' h => NewLines.newL h
  subst h1 h2 h3
  have := concat_any g [⟨A1, c1, d1⟩, ⟨A2, c2, d2⟩, ⟨A3, c3, d3⟩] 3 3 W rfl hg ?_ ?_ (by simp)
  · simpa [partsL] using this
  · intro p hp
    simp only [List.mem_cons, List.not_mem_nil, or_false] at hp
    rcases hp with rfl | rfl | rfl
    · exact r1
    · exact r2
    · exact r3
  · simp [partsL]; omega

set_option maxRecDepth 3000 in
set_option maxHeartbeats 4000000 in
theorem joinA_f {ok ok' : Nat → Prop} (A B : Option Addr) (ca cb : Nat) (da db : List (List UInt8)) (wb : Bool) (w : World) (ha : LRd ok w A ca da) (hb : LRd ok' w B cb db) (hsum : da.length + db.length ≤ 5000000000000) (h1 : da.length = 0) :
    Calls Try.prog 54 #[.agg #[.slice A da.length ca, .bool false], .agg #[.slice B db.length cb, .bool wb]] w (NewReg ⟨da ++ db, wb⟩ w) := by
  have hra := ha.rd
  have hrb := hb.rd
  have hna := Lib.hid ha.nil
  have hnb := Lib.hid hb.nil
  clear ha hb
  have h1' : ((da.length : Int) == 0) = true := by simp [h1]
  have H1 := Lib.hid h1
  clear h1
  go_enter Try.func54, Try.ntmps54
  go_wp2_with fail
  go_region_held3 (fun w' => w'.cell? ⟨w.heap.size, 0, none⟩ = some (.slice A da.length ca) ∧ w'.cell? ⟨w.heap.size + 1, 0, none⟩ = some (.slice B db.length cb) ∧ w'.cell? ⟨w.heap.size, 1, none⟩ = some (.bool false) ∧ w'.cell? ⟨w.heap.size + 1, 1, none⟩ = some (.bool wb))
    (first | (simp [go_sem]; done))
    (first | (go_at_call 75; (refine Calls.mono (concat2_at A B ca cb da db _ _ hsum ?_ ?_ ?_) ?_); (exact rd_new_drew _ #[.slice A da.length ca, .slice B db.length cb] _ 2 _ rfl (by simp)); (exact ⟨hra.grows (by repeat' first | exact Grows.refl _ | refine Grows.more ?_ _ | refine Grows.alloc ?_ _ | refine Grows.drew ?_), hna.out⟩); (exact ⟨hrb.grows (by repeat' first | exact Grows.refl _ | refine Grows.more ?_ _ | refine Grows.alloc ?_ _ | refine Grows.drew ?_), hnb.out⟩); rintro e w1 ⟨A1, c1, rfl, hL, m1, rfl⟩))
  go_wp2_with fail
  exact bodyPost_ret (v := .agg #[.slice A1 (da ++ db).length c1, .bool wb]) (by simp [results, Try.results54, go_sem]) rfl ⟨A1, c1, rfl, ((hL.chg (chg_boxes _ _ _ _ _) (fun b _ hb hp => by simp at hb hp; omega)).mono (fun b _ hb => by simp at hb; omega)), by repeat' first | exact Grows.refl _ | refine Grows.more ?_ _ | refine Grows.alloc ?_ _⟩
set_option maxRecDepth 3000 in
set_option maxHeartbeats 4000000 in
theorem joinB_f {ok ok' : Nat → Prop} (A B : Option Addr) (ca cb : Nat) (da db : List (List UInt8)) (wb : Bool) (w : World) (ha : LRd ok w A ca da) (hb : LRd ok' w B cb db) (hsum : da.length + db.length ≤ 5000000000000) (h1 : ¬ da.length = 0) (h2 : db.length = 0) :
    Calls Try.prog 54 #[.agg #[.slice A da.length ca, .bool false], .agg #[.slice B db.length cb, .bool wb]] w (NewReg ⟨da ++ db, wb⟩ w) := by
  have hra := ha.rd
  have hrb := hb.rd
  have hna := Lib.hid ha.nil
  have hnb := Lib.hid hb.nil
  clear ha hb
  have h1' : ((da.length : Int) == 0) = false := by rw [beq_eq_false_iff_ne]; omega
  have H1 := Lib.hid h1
  clear h1
  have h2' : ((db.length : Int) == 0) = true := by simp [h2]
  have H2 := Lib.hid h2
  clear h2
  go_enter Try.func54, Try.ntmps54
  go_wp2_with fail
  go_region_held3 (fun w' => w'.cell? ⟨w.heap.size, 0, none⟩ = some (.slice A da.length ca) ∧ w'.cell? ⟨w.heap.size + 1, 0, none⟩ = some (.slice B db.length cb) ∧ w'.cell? ⟨w.heap.size, 1, none⟩ = some (.bool false) ∧ w'.cell? ⟨w.heap.size + 1, 1, none⟩ = some (.bool wb))
    (first | (simp [go_sem]; done))
    (first | (go_at_call 75; (refine Calls.mono (concat2_at A B ca cb da db _ _ hsum ?_ ?_ ?_) ?_); (exact rd_new_drew _ #[.slice A da.length ca, .slice B db.length cb] _ 2 _ rfl (by simp)); (exact ⟨hra.grows (by repeat' first | exact Grows.refl _ | refine Grows.more ?_ _ | refine Grows.alloc ?_ _ | refine Grows.drew ?_), hna.out⟩); (exact ⟨hrb.grows (by repeat' first | exact Grows.refl _ | refine Grows.more ?_ _ | refine Grows.alloc ?_ _ | refine Grows.drew ?_), hnb.out⟩); rintro e w1 ⟨A1, c1, rfl, hL, m1, rfl⟩))
  go_wp2_with fail
  exact bodyPost_ret (v := .agg #[.slice A1 (da ++ db).length c1, .bool wb]) (by simp [results, Try.results54, go_sem]) rfl ⟨A1, c1, rfl, ((hL.chg (chg_boxes _ _ _ _ _) (fun b _ hb hp => by simp at hb hp; omega)).mono (fun b _ hb => by simp at hb; omega)), by repeat' first | exact Grows.refl _ | refine Grows.more ?_ _ | refine Grows.alloc ?_ _⟩
set_option maxRecDepth 3000 in
set_option maxHeartbeats 4000000 in
theorem joinC_f {ok ok' : Nat → Prop} (A B : Option Addr) (ca cb : Nat) (da db : List (List UInt8)) (w : World) (ha : LRd ok w A ca da) (hb : LRd ok' w B cb db) (hsum : da.length + db.length ≤ 5000000000000) (h1 : ¬ da.length = 0) (h2 : ¬ db.length = 0) :
    Calls Try.prog 54 #[.agg #[.slice A da.length ca, .bool false], .agg #[.slice B db.length cb, .bool true]] w (NewReg ⟨da ++ db, true⟩ w) := by
  have hra := ha.rd
  have hrb := hb.rd
  have hna := Lib.hid ha.nil
  have hnb := Lib.hid hb.nil
  clear ha hb
  have h1' : ((da.length : Int) == 0) = false := by rw [beq_eq_false_iff_ne]; omega
  have H1 := Lib.hid h1
  clear h1
  have h2' : ((db.length : Int) == 0) = false := by rw [beq_eq_false_iff_ne]; omega
  have H2 := Lib.hid h2
  clear h2
  go_enter Try.func54, Try.ntmps54
  go_wp2_with fail
  go_region_held3 (fun w' => w'.cell? ⟨w.heap.size, 0, none⟩ = some (.slice A da.length ca) ∧ w'.cell? ⟨w.heap.size + 1, 0, none⟩ = some (.slice B db.length cb) ∧ w'.cell? ⟨w.heap.size, 1, none⟩ = some (.bool false) ∧ w'.cell? ⟨w.heap.size + 1, 1, none⟩ = some (.bool true))
    (first | (simp [go_sem]; done))
    (first | (go_at_call 75; (refine Calls.mono (concat2_at A B ca cb da db _ _ hsum ?_ ?_ ?_) ?_); (exact rd_new_drew _ #[.slice A da.length ca, .slice B db.length cb] _ 2 _ rfl (by simp)); (exact ⟨hra.grows (by repeat' first | exact Grows.refl _ | refine Grows.more ?_ _ | refine Grows.alloc ?_ _ | refine Grows.drew ?_), hna.out⟩); (exact ⟨hrb.grows (by repeat' first | exact Grows.refl _ | refine Grows.more ?_ _ | refine Grows.alloc ?_ _ | refine Grows.drew ?_), hnb.out⟩); rintro e w1 ⟨A1, c1, rfl, hL, m1, rfl⟩))
  go_wp2_with fail
  exact bodyPost_ret (v := .agg #[.slice A1 (da ++ db).length c1, .bool true]) (by simp [results, Try.results54, go_sem]) rfl ⟨A1, c1, rfl, ((hL.chg (chg_boxes _ _ _ _ _) (fun b _ hb hp => by simp at hb hp; omega)).mono (fun b _ hb => by simp at hb; omega)), by repeat' first | exact Grows.refl _ | refine Grows.more ?_ _ | refine Grows.alloc ?_ _⟩
end Go.Proofs.Ythanghgfakibnaa

/-
  Registers: the walk of regs.Join where neither text is whole.
-/
namespace Go.Proofs.Ythanghgfakibnaa
open Go.RowKit

set_option maxRecDepth 3000 in
theorem alloc_more (w : World) (o : Obj) (m : More) : more (w.alloc o) m = more w ⟨#[o] ++ m.1, m.2⟩ := by
  unfold more World.alloc
  congr 1
  show w.heap.push o ++ m.1 = w.heap ++ (#[o] ++ m.1)
  rw [Array.push_eq_append, Array.append_assoc]
set_option maxRecDepth 3000 in
theorem chg_boxes3 {w : World} (a b a2 b2 c : Obj) (m : More) : Chg (fun x => x = w.heap.size ∨ x = w.heap.size + 1) (more (((w.alloc a).alloc b).alloc c) m) (more (((w.alloc a2).alloc b2).alloc c) m) := by
  rw [alloc_more _ c, alloc_more _ c]
  exact chg_boxes a b a2 b2 _
set_option maxRecDepth 3000 in
theorem some_none {a : Addr} {p : Prop} : some a = none → p := fun h => by cases h
set_option maxRecDepth 3000 in
theorem rd_one_mid (w : World) (s : List UInt8) (t : TypeId) (o : Obj) (g : Nat) (hg : g = w.heap.size) : Rd ((w.alloc (.cells #[.string (tx s)] t)).alloc o).drew 1 (some ⟨g, 0, none⟩) [s].length (lv [s]) := (rd_new w #[.string (tx s)] t 1 g rfl hg).grows (((Grows.refl _).alloc _).drew)
set_option maxRecDepth 3000 in
set_option maxHeartbeats 4000000 in
/-- The last line of one with the first one of the other. -/
theorem joinD_any {ok ok' : Nat → Prop} (A B : Option Addr) (ca cb : Nat) (d0 d1 : List (List UInt8)) (x y : List UInt8) (w : World) (ha : LRd ok w A ca (d0 ++ [x])) (hb : LRd ok' w B cb (y :: d1)) (hsum : d0.length + (1 + d1.length) ≤ 5000000) (hxy : x.length + y.length ≤ 1000000) :
    Calls Try.prog 54 #[.agg #[.slice A (d0.length + 1) ca, .bool false], .agg #[.slice B (d1.length + 1) cb, .bool false]] w (NewReg ⟨d0 ++ ([x ++ y] ++ d1), false⟩ w) := by
  have hra := ha.rd
  have hrb := hb.rd
  have la := ha.le
  have lb := hb.le
  simp only [List.length_append, List.length_cons, List.length_nil, Nat.zero_add] at la lb
  obtain ⟨b1, o1, rfl, hb1, hx⟩ := hra.line d0.length (by simp)
  obtain ⟨b2, o2, rfl, hb2, hy⟩ := hrb.line 0 (by simp)
  have hx : w.cell? ⟨b1, o1 + d0.length, none⟩ = some (.string (tx x)) := by simpa using hx
  have hy : w.cell? ⟨b2, o2, none⟩ = some (.string (tx y)) := by simpa using hy
  have hb1 : InHeap b1 w := hb1
  have hb2 : InHeap b2 w := hb2
  have hT : Hid (Rd w 1 (some ⟨b1, o1, none⟩) d0.length (lv d0)) := Lib.hid (by have := rd_take hra d0.length d0.length (by simp); simpa using this)
  have hD : Hid (Rd w 1 (if cb = 1 then some ⟨b2, o2, none⟩ else some ⟨b2, o2 + 1, none⟩) d1.length (lv d1)) := Lib.hid (by
    split
    · obtain rfl : d1 = [] := List.eq_nil_of_length_eq_zero (by omega)
      exact Rd.nil_
    · have := rd_drop hrb 1 d1.length (by simp); simpa [Addr.add] using this)
  have hDn : Hid ((if cb = 1 then some (⟨b2, o2, none⟩ : Addr) else some ⟨b2, o2 + 1, none⟩) = none → d1.length = 0 ∧ cb - 1 = 0) := Lib.hid (by split <;> intro h <;> cases h)
  clear ha hb hra hrb
  obtain ⟨A3, hA3⟩ : ∃ A3 : Option Addr, (if cb = 1 then some ⟨b2, o2, none⟩ else some ⟨b2, o2 + 1, none⟩) = A3 := ⟨_, rfl⟩
  rw [hA3] at hD hDn
  have h1' : ((d0.length : Int) + 1 == 0) = false := by rw [beq_eq_false_iff_ne]; omega
  have h2' : ((d1.length : Int) + 1 == 0) = false := by rw [beq_eq_false_iff_ne]; omega
  have k0 : IntKind.i64.wrap ((d0.length : Int) + 1 - 1) = d0.length := by rw [IntWalk.i64_left]; unfold wrap64; omega
  have k1 : IntKind.i64.wrap (d0.length : Int) = d0.length := by rw [IntWalk.i64_left]; unfold wrap64; omega
  have k2 : (0 : Int) ≤ (d0.length : Int) := by omega
  have k3 : (d0.length : Int) < (d0.length : Int) + 1 := by omega
  have k4 : (d0.length : Int) ≤ (ca : Int) := by omega
  have k5 : (0 : Int) < (d1.length : Int) + 1 := by omega
  have hs3 : d0.length + ([x ++ y].length + d1.length) ≤ 5000000000000 := by simp; omega
  have HK := Lib.hid (fun W g A2 => concat3_at (some ⟨b1, o1, none⟩) A2 A3 ca 1 (cb - 1) d0.length 1 d1.length d0 [x ++ y] d1 W g rfl rfl rfl hs3)
  have k7 : ¬ 9223372036854775807 < x.length + y.length := by omega
  have k8 : tx x ++ tx y = tx (x ++ y) := tx_append x y
  clear hxy
  have k6 : (1 : Int) ≤ (d1.length : Int) + 1 := by omega
  go_enter Try.func54, Try.ntmps54
  go_wp2_with fail
  go_region_held3 (fun w' => w'.cell? ⟨w.heap.size, 0, none⟩ = some (.slice (some ⟨b1, o1, none⟩) (d0.length + 1) ca) ∧ w'.cell? ⟨w.heap.size + 1, 0, none⟩ = some (.slice (some ⟨b2, o2, none⟩) (d1.length + 1) cb) ∧ w'.cell? ⟨b1, o1 + d0.length, none⟩ = some (.string (tx x)) ∧ w'.cell? ⟨b2, o2, none⟩ = some (.string (tx y)))
    (first | (simp [go_sem, hb1, hb2, hx, hy]; done))
    (first | (go_at_call 75; (refine Calls.mono (HK.out _ _ (some ⟨w.heap.size + 1 + 1 + 1, 0, none⟩) ?_ ?_ ?_ ?_) ?_); (exact rd_new_drew _ #[.slice (some ⟨b1, o1, none⟩) d0.length ca, .slice (some ⟨w.heap.size + 1 + 1 + 1, 0, none⟩) 1 1, .slice A3 d1.length (cb - 1)] _ 3 _ rfl (by simp)); (exact ⟨hT.out.grows (by repeat' first | exact Grows.refl _ | refine Grows.more ?_ _ | refine Grows.alloc ?_ _ | refine Grows.drew ?_), some_none⟩); (exact ⟨rd_one_mid _ (x ++ y) _ _ _ (by simp), some_none⟩); (exact ⟨hD.out.grows (by repeat' first | exact Grows.refl _ | refine Grows.more ?_ _ | refine Grows.alloc ?_ _ | refine Grows.drew ?_), hDn.out⟩); rintro e w1 ⟨A1, c1, rfl, hL, m1, rfl⟩))
  go_wp2_with fail
  exact bodyPost_ret (v := .agg #[.slice A1 (d0 ++ ([x ++ y] ++ d1)).length c1, .bool false]) (by simp [results, Try.results54, go_sem]) rfl ⟨A1, c1, rfl, ((hL.chg (chg_boxes3 _ _ _ _ _ _) (fun b _ hb hp => by simp at hb hp; omega)).mono (fun b _ hb => by simp at hb; omega)), by repeat' first | exact Grows.refl _ | refine Grows.more ?_ _ | refine Grows.alloc ?_ _⟩
end Go.Proofs.Ythanghgfakibnaa
