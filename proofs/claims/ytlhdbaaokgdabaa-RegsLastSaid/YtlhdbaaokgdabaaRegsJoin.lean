/-
  Registers: the walk of regs.Join.
-/
import Derived.Test.YtlhdbaaokgdabaaRegsWalk
import Derived.Test.YtlhdbaaokgdabaaConcat
namespace Go.Proofs.Ytlhdbaaokgdabaa
open Go.RowKit

theorem rd_take {w : World} {A : Option Addr} {d : List (List UInt8)} (h : Rd w 1 A d.length (lv d)) (k n : Nat) (hk : n = (d.take k).length) : Rd w 1 A n (lv (d.take k)) := by
  subst hk
  refine ⟨by simp [lv], fun hn => ?_⟩
  have hl : 0 < d.length := by simp at hn; omega
  obtain ⟨b, o, e, hb, hc⟩ := h.2 hl
  refine ⟨b, o, e, hb, fun j u hu => hc j u ?_⟩
  rw [lv, List.map_take, List.map_take, List.getElem?_take] at hu
  split at hu
  · exact hu
  · cases hu
theorem rd_drop {w : World} {a : Addr} {d : List (List UInt8)} (h : Rd w 1 (some a) d.length (lv d)) (k n : Nat) (hn : n = d.length - k) : Rd w 1 (some (a.add k)) n (lv (d.drop k)) := by
  subst hn
  refine ⟨by simp [lv], fun hn => ?_⟩
  obtain ⟨b, o, e, hb, hc⟩ := h.2 (by omega)
  injection e with e
  subst e
  refine ⟨b, o + k, by simp [Addr.add], hb, fun j u hu => ?_⟩
  have := hc (k + j) u (by rw [lv, List.map_drop, List.map_drop, List.getElem?_drop] at hu; exact hu)
  rw [← Nat.add_assoc] at this
  exact this
theorem rd_new_drew (w : World) (cs : Array Value) (t : TypeId) (n g : Nat) (hn : cs.size = n) (hg : g = w.heap.size) : Rd (w.alloc (.cells cs t)).drew 1 (some ⟨g, 0, none⟩) n cs.toList := (rd_new w cs t n g hn hg).grows ((Grows.refl _).drew)
/-- Concat of lists that were laid in a block of their own. -/
theorem concat2_at (A1 A2 : Option Addr) (c1 c2 : Nat) (d1 d2 : List (List UInt8)) (W : World) (g : Nat) (hl : d1.length + d2.length ≤ 5000000000000) (hg : Rd W 1 (some ⟨g, 0, none⟩) 2 [.slice A1 d1.length c1, .slice A2 d2.length c2])
    (r1 : (Part.mk A1 c1 d1).ok W) (r2 : (Part.mk A2 c2 d2).ok W) : Calls Try.prog 29 #[.slice (some ⟨g, 0, none⟩) 2 2] W (NewL (d1 ++ d2) W) := by
  refine Calls.mono ?_ fun e w' h => NewLines.newL h
  have := concat_any g [⟨A1, c1, d1⟩, ⟨A2, c2, d2⟩] 2 2 W rfl hg ?_ ?_ (by simp)
  · simpa [partsL] using this
  · intro p hp
    simp only [List.mem_cons, List.not_mem_nil, or_false] at hp
    rcases hp with rfl | rfl
    · exact r1
    · exact r2
  · simp [partsL]; omega
theorem concat3_at (A1 A2 A3 : Option Addr) (c1 c2 c3 n1 n2 n3 : Nat) (d1 d2 d3 : List (List UInt8)) (W : World) (g : Nat) (h1 : n1 = d1.length) (h2 : n2 = d2.length) (h3 : n3 = d3.length) (hl : d1.length + (d2.length + d3.length) ≤ 5000000000000) (hg : Rd W 1 (some ⟨g, 0, none⟩) 3 [.slice A1 n1 c1, .slice A2 n2 c2, .slice A3 n3 c3])
    (r1 : (Part.mk A1 c1 d1).ok W) (r2 : (Part.mk A2 c2 d2).ok W) (r3 : (Part.mk A3 c3 d3).ok W) : Calls Try.prog 29 #[.slice (some ⟨g, 0, none⟩) 3 3] W (NewL (d1 ++ (d2 ++ d3)) W) := by
  refine Calls.mono ?_ fun e w' h => NewLines.newL h
  subst h1 h2 h3
  have := concat_any g [⟨A1, c1, d1⟩, ⟨A2, c2, d2⟩, ⟨A3, c3, d3⟩] 3 3 W rfl hg ?_ ?_ (by simp)
  · simpa [partsL] using this
  · intro p hp
    simp only [List.mem_cons, List.not_mem_nil, or_false] at hp
    rcases hp with rfl | rfl | rfl
    · exact r1
    · exact r2
    · exact r3
  · simp [partsL]; omega

set_option maxHeartbeats 4000000 in
theorem joinA_f {ok ok' : Nat → Prop} (A B : Option Addr) (ca cb : Nat) (da db : List (List UInt8)) (wb : Bool) (w : World) (ha : LRd ok w A ca da) (hb : LRd ok' w B cb db) (hsum : da.length + db.length ≤ 5000000000000) (h1 : da.length = 0) :
    Calls Try.prog 17 #[.agg #[.slice A da.length ca, .bool false], .agg #[.slice B db.length cb, .bool wb]] w (NewReg ⟨da ++ db, wb⟩ w) := by
  have hra := ha.rd
  have hrb := hb.rd
  have hna := Lib.hid ha.nil
  have hnb := Lib.hid hb.nil
  clear ha hb
  have h1' : ((da.length : Int) == 0) = true := by simp [h1]
  have H1 := Lib.hid h1
  clear h1
  go_enter Try.func17, Try.ntmps17
  go_wp2_with fail
  go_region_held3 (fun w' => w'.cell? ⟨w.heap.size, 0, none⟩ = some (.slice A da.length ca) ∧ w'.cell? ⟨w.heap.size + 1, 0, none⟩ = some (.slice B db.length cb) ∧ w'.cell? ⟨w.heap.size, 1, none⟩ = some (.bool false) ∧ w'.cell? ⟨w.heap.size + 1, 1, none⟩ = some (.bool wb))
    (first | (simp [go_sem]; done))
    (first | (go_at_call 29; (refine Calls.mono (concat2_at A B ca cb da db _ _ hsum ?_ ?_ ?_) ?_); (exact rd_new_drew _ #[.slice A da.length ca, .slice B db.length cb] _ 2 _ rfl (by simp)); (exact ⟨hra.grows (by repeat' first | exact Grows.refl _ | refine Grows.more ?_ _ | refine Grows.alloc ?_ _ | refine Grows.drew ?_), hna.out⟩); (exact ⟨hrb.grows (by repeat' first | exact Grows.refl _ | refine Grows.more ?_ _ | refine Grows.alloc ?_ _ | refine Grows.drew ?_), hnb.out⟩); rintro e w1 ⟨A1, c1, rfl, hL, m1, rfl⟩))
  go_wp2_with fail
  exact bodyPost_ret (v := .agg #[.slice A1 (da ++ db).length c1, .bool wb]) (by simp [results, Try.results17, go_sem]) rfl ⟨A1, c1, rfl, ((hL.chg (chg_boxes _ _ _ _ _) (fun b _ hb hp => by simp at hb hp; omega)).mono (fun b _ hb => by simp at hb; omega)), by repeat' first | exact Grows.refl _ | refine Grows.more ?_ _ | refine Grows.alloc ?_ _⟩
set_option maxHeartbeats 4000000 in
theorem joinB_f {ok ok' : Nat → Prop} (A B : Option Addr) (ca cb : Nat) (da db : List (List UInt8)) (wb : Bool) (w : World) (ha : LRd ok w A ca da) (hb : LRd ok' w B cb db) (hsum : da.length + db.length ≤ 5000000000000) (h1 : ¬ da.length = 0) (h2 : db.length = 0) :
    Calls Try.prog 17 #[.agg #[.slice A da.length ca, .bool false], .agg #[.slice B db.length cb, .bool wb]] w (NewReg ⟨da ++ db, wb⟩ w) := by
  have hra := ha.rd
  have hrb := hb.rd
  have hna := Lib.hid ha.nil
  have hnb := Lib.hid hb.nil
  clear ha hb
  have h1' : ((da.length : Int) == 0) = false := by rw [beq_eq_false_iff_ne]; omega
  have H1 := Lib.hid h1
  clear h1
  have h2' : ((db.length : Int) == 0) = true := by simp [h2]
  have H2 := Lib.hid h2
  clear h2
  go_enter Try.func17, Try.ntmps17
  go_wp2_with fail
  go_region_held3 (fun w' => w'.cell? ⟨w.heap.size, 0, none⟩ = some (.slice A da.length ca) ∧ w'.cell? ⟨w.heap.size + 1, 0, none⟩ = some (.slice B db.length cb) ∧ w'.cell? ⟨w.heap.size, 1, none⟩ = some (.bool false) ∧ w'.cell? ⟨w.heap.size + 1, 1, none⟩ = some (.bool wb))
    (first | (simp [go_sem]; done))
    (first | (go_at_call 29; (refine Calls.mono (concat2_at A B ca cb da db _ _ hsum ?_ ?_ ?_) ?_); (exact rd_new_drew _ #[.slice A da.length ca, .slice B db.length cb] _ 2 _ rfl (by simp)); (exact ⟨hra.grows (by repeat' first | exact Grows.refl _ | refine Grows.more ?_ _ | refine Grows.alloc ?_ _ | refine Grows.drew ?_), hna.out⟩); (exact ⟨hrb.grows (by repeat' first | exact Grows.refl _ | refine Grows.more ?_ _ | refine Grows.alloc ?_ _ | refine Grows.drew ?_), hnb.out⟩); rintro e w1 ⟨A1, c1, rfl, hL, m1, rfl⟩))
  go_wp2_with fail
  exact bodyPost_ret (v := .agg #[.slice A1 (da ++ db).length c1, .bool wb]) (by simp [results, Try.results17, go_sem]) rfl ⟨A1, c1, rfl, ((hL.chg (chg_boxes _ _ _ _ _) (fun b _ hb hp => by simp at hb hp; omega)).mono (fun b _ hb => by simp at hb; omega)), by repeat' first | exact Grows.refl _ | refine Grows.more ?_ _ | refine Grows.alloc ?_ _⟩
set_option maxHeartbeats 4000000 in
theorem joinC_f {ok ok' : Nat → Prop} (A B : Option Addr) (ca cb : Nat) (da db : List (List UInt8)) (w : World) (ha : LRd ok w A ca da) (hb : LRd ok' w B cb db) (hsum : da.length + db.length ≤ 5000000000000) (h1 : ¬ da.length = 0) (h2 : ¬ db.length = 0) :
    Calls Try.prog 17 #[.agg #[.slice A da.length ca, .bool false], .agg #[.slice B db.length cb, .bool true]] w (NewReg ⟨da ++ db, true⟩ w) := by
  have hra := ha.rd
  have hrb := hb.rd
  have hna := Lib.hid ha.nil
  have hnb := Lib.hid hb.nil
  clear ha hb
  have h1' : ((da.length : Int) == 0) = false := by rw [beq_eq_false_iff_ne]; omega
  have H1 := Lib.hid h1
  clear h1
  have h2' : ((db.length : Int) == 0) = false := by rw [beq_eq_false_iff_ne]; omega
  have H2 := Lib.hid h2
  clear h2
  go_enter Try.func17, Try.ntmps17
  go_wp2_with fail
  go_region_held3 (fun w' => w'.cell? ⟨w.heap.size, 0, none⟩ = some (.slice A da.length ca) ∧ w'.cell? ⟨w.heap.size + 1, 0, none⟩ = some (.slice B db.length cb) ∧ w'.cell? ⟨w.heap.size, 1, none⟩ = some (.bool false) ∧ w'.cell? ⟨w.heap.size + 1, 1, none⟩ = some (.bool true))
    (first | (simp [go_sem]; done))
    (first | (go_at_call 29; (refine Calls.mono (concat2_at A B ca cb da db _ _ hsum ?_ ?_ ?_) ?_); (exact rd_new_drew _ #[.slice A da.length ca, .slice B db.length cb] _ 2 _ rfl (by simp)); (exact ⟨hra.grows (by repeat' first | exact Grows.refl _ | refine Grows.more ?_ _ | refine Grows.alloc ?_ _ | refine Grows.drew ?_), hna.out⟩); (exact ⟨hrb.grows (by repeat' first | exact Grows.refl _ | refine Grows.more ?_ _ | refine Grows.alloc ?_ _ | refine Grows.drew ?_), hnb.out⟩); rintro e w1 ⟨A1, c1, rfl, hL, m1, rfl⟩))
  go_wp2_with fail
  exact bodyPost_ret (v := .agg #[.slice A1 (da ++ db).length c1, .bool true]) (by simp [results, Try.results17, go_sem]) rfl ⟨A1, c1, rfl, ((hL.chg (chg_boxes _ _ _ _ _) (fun b _ hb hp => by simp at hb hp; omega)).mono (fun b _ hb => by simp at hb; omega)), by repeat' first | exact Grows.refl _ | refine Grows.more ?_ _ | refine Grows.alloc ?_ _⟩
end Go.Proofs.Ytlhdbaaokgdabaa
