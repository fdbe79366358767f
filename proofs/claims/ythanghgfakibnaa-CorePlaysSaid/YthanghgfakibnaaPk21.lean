/-
  Registers: the walk of regs.Join where the first text is whole.
-/
import Derived.Test.YthanghgfakibnaaPk17
namespace Go.Proofs.Ythanghgfakibnaa
open Go.RowKit

set_option maxRecDepth 3000 in
set_option maxHeartbeats 4000000 in
theorem joinA_t {ok ok' : Nat → Prop} (A B : Option Addr) (ca cb : Nat) (da db : List (List UInt8)) (wb : Bool) (w : World) (ha : LRd ok w A ca da) (hb : LRd ok' w B cb db) (hsum : da.length + db.length ≤ 5000000000000) (h1 : da.length = 0) :
    Calls Try.prog 54 #[.agg #[.slice A da.length ca, .bool true], .agg #[.slice B db.length cb, .bool wb]] w (NewReg ⟨da ++ db, true⟩ w) := by
  have hra := ha.rd
  have hrb := hb.rd
  have hna := Lib.hid ha.nil
  have hnb := Lib.hid hb.nil
  clear ha hb
  have h1' : ((da.length : Int) == 0) = true := by simp [h1]
  have H1 := Lib.hid h1
  clear h1
  go_enter Try.func54, Try.ntmps54
  go_wp2_with fail
  first
  | go_region_with
      (first | (go_at_call 75; (refine Calls.mono (concat2_at A B ca cb da db _ _ hsum ?_ ?_ ?_) ?_); (exact rd_new_drew _ #[.slice A da.length ca, .slice B db.length cb] _ 2 _ rfl (by simp)); (exact ⟨hra.grows (by repeat' first | exact Grows.refl _ | refine Grows.more ?_ _ | refine Grows.alloc ?_ _ | refine Grows.drew ?_), hna.out⟩); (exact ⟨hrb.grows (by repeat' first | exact Grows.refl _ | refine Grows.more ?_ _ | refine Grows.alloc ?_ _ | refine Grows.drew ?_), hnb.out⟩); rintro e w1 ⟨A1, c1, rfl, hL, m1, rfl⟩))
  | fail
  all_goals
    go_wp2_with fail
    exact bodyPost_ret (v := .agg #[.slice A1 (da ++ db).length c1, .bool true]) (by simp [results, Try.results54, go_sem]) rfl ⟨A1, c1, rfl, ((hL.chg (chg_boxes _ _ _ _ _) (fun b _ hb hp => by simp at hb hp; omega)).mono (fun b _ hb => by simp at hb; omega)), by repeat' first | exact Grows.refl _ | refine Grows.more ?_ _ | refine Grows.alloc ?_ _⟩
set_option maxRecDepth 3000 in
set_option maxHeartbeats 4000000 in
theorem joinB_t {ok ok' : Nat → Prop} (A B : Option Addr) (ca cb : Nat) (da db : List (List UInt8)) (wb : Bool) (w : World) (ha : LRd ok w A ca da) (hb : LRd ok' w B cb db) (hsum : da.length + db.length ≤ 5000000000000) (h1 : ¬ da.length = 0) (h2 : db.length = 0) :
    Calls Try.prog 54 #[.agg #[.slice A da.length ca, .bool true], .agg #[.slice B db.length cb, .bool wb]] w (NewReg ⟨da ++ db, true⟩ w) := by
  have hra := ha.rd
  have hrb := hb.rd
  have hna := Lib.hid ha.nil
  have hnb := Lib.hid hb.nil
  clear ha hb
  have h1' : ((da.length : Int) == 0) = false := by rw [beq_eq_false_iff_ne]; omega
  have H1 := Lib.hid h1
  clear h1
  have h2' : ((db.length : Int) == 0) = true := by simp [h2]
  have H2 := Lib.hid h2
  clear h2
  go_enter Try.func54, Try.ntmps54
  go_wp2_with fail
  first
  | go_region_with
      (first | (go_at_call 75; (refine Calls.mono (concat2_at A B ca cb da db _ _ hsum ?_ ?_ ?_) ?_); (exact rd_new_drew _ #[.slice A da.length ca, .slice B db.length cb] _ 2 _ rfl (by simp)); (exact ⟨hra.grows (by repeat' first | exact Grows.refl _ | refine Grows.more ?_ _ | refine Grows.alloc ?_ _ | refine Grows.drew ?_), hna.out⟩); (exact ⟨hrb.grows (by repeat' first | exact Grows.refl _ | refine Grows.more ?_ _ | refine Grows.alloc ?_ _ | refine Grows.drew ?_), hnb.out⟩); rintro e w1 ⟨A1, c1, rfl, hL, m1, rfl⟩))
  | fail
  all_goals
    go_wp2_with fail
    exact bodyPost_ret (v := .agg #[.slice A1 (da ++ db).length c1, .bool true]) (by simp [results, Try.results54, go_sem]) rfl ⟨A1, c1, rfl, ((hL.chg (chg_boxes _ _ _ _ _) (fun b _ hb hp => by simp at hb hp; omega)).mono (fun b _ hb => by simp at hb; omega)), by repeat' first | exact Grows.refl _ | refine Grows.more ?_ _ | refine Grows.alloc ?_ _⟩
set_option maxRecDepth 3000 in
set_option maxHeartbeats 4000000 in
theorem joinC_t {ok ok' : Nat → Prop} (A B : Option Addr) (ca cb : Nat) (da db : List (List UInt8)) (wb : Bool) (w : World) (ha : LRd ok w A ca da) (hb : LRd ok' w B cb db) (hsum : da.length + db.length ≤ 5000000000000) (h1 : ¬ da.length = 0) (h2 : ¬ db.length = 0) :
    Calls Try.prog 54 #[.agg #[.slice A da.length ca, .bool true], .agg #[.slice B db.length cb, .bool wb]] w (NewReg ⟨da ++ db, true⟩ w) := by
  have hra := ha.rd
  have hrb := hb.rd
  have hna := Lib.hid ha.nil
  have hnb := Lib.hid hb.nil
  clear ha hb
  have h1' : ((da.length : Int) == 0) = false := by rw [beq_eq_false_iff_ne]; omega
  have H1 := Lib.hid h1
  clear h1
  have h2' : ((db.length : Int) == 0) = false := by rw [beq_eq_false_iff_ne]; omega
  have H2 := Lib.hid h2
  clear h2
  go_enter Try.func54, Try.ntmps54
  go_wp2_with fail
  first
  | go_region_with
      (first | (go_at_call 75; (refine Calls.mono (concat2_at A B ca cb da db _ _ hsum ?_ ?_ ?_) ?_); (exact rd_new_drew _ #[.slice A da.length ca, .slice B db.length cb] _ 2 _ rfl (by simp)); (exact ⟨hra.grows (by repeat' first | exact Grows.refl _ | refine Grows.more ?_ _ | refine Grows.alloc ?_ _ | refine Grows.drew ?_), hna.out⟩); (exact ⟨hrb.grows (by repeat' first | exact Grows.refl _ | refine Grows.more ?_ _ | refine Grows.alloc ?_ _ | refine Grows.drew ?_), hnb.out⟩); rintro e w1 ⟨A1, c1, rfl, hL, m1, rfl⟩))
  | fail
  all_goals
    go_wp2_with fail
    exact bodyPost_ret (v := .agg #[.slice A1 (da ++ db).length c1, .bool true]) (by simp [results, Try.results54, go_sem]) rfl ⟨A1, c1, rfl, ((hL.chg (chg_boxes _ _ _ _ _) (fun b _ hb hp => by simp at hb hp; omega)).mono (fun b _ hb => by simp at hb; omega)), by repeat' first | exact Grows.refl _ | refine Grows.more ?_ _ | refine Grows.alloc ?_ _⟩
end Go.Proofs.Ythanghgfakibnaa
