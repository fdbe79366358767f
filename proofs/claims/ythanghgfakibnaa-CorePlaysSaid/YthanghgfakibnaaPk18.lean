/-
  Registers: the walk of the document's Join.
-/
import Derived.Test.YthanghgfakibnaaPk16
import Derived.Test.YthanghgfakibnaaPk17
namespace Go.Proofs.Ythanghgfakibnaa
open Go.RowKit
attribute [local go_sem ↓] zeroReg
set_option maxRecDepth 3000 in
theorem own_next3 {W w1 w2 : World} {B : Nat} (hB : B = W.heap.size) {v : Value} {n : Nat} {xs : List Value} (hb : Grows W w1) (hown : w1.ownsRow B 9 1 v n xs) (hgrow : w1.grownBy w2 v.ownBlock) : Grows W w2 := by
  subst hB
  exact Grows.of_below (own_next hb.below hown hgrow)
set_option maxRecDepth 3000 in
set_option maxHeartbeats 4000000 in
theorem rjoinA_f {ok ok' : Nat → Prop} (A B : Option Addr) (ca cb : Nat) (da db : List (List UInt8)) (wb : Bool) (w : World) (ha : LRd ok w A ca da) (hb : LRd ok' w B cb db) (hsum : da.length + db.length ≤ 1000000) (h1 : da.length = 0) :
    Calls Try.prog 83 #[.agg #[.slice A da.length ca, .bool false], .agg #[.slice B db.length cb, .bool wb]] w (NewReg ⟨da ++ db, wb⟩ w) := by
  obtain ⟨i0, hi, hz0, hz1, hz2⟩ := info_parts infoStr
  have hra := ha.rd
  have hrb := hb.rd
  have hna := Lib.hid ha.nil
  have hnb := Lib.hid hb.nil
  clear ha hb
  have h1' : ¬ (0 : Int) < (da.length : Int) := by omega
  have H1 := Lib.hid h1
  clear h1
  go_enter Try.func83, Try.ntmps83
  go_wp2_with (at_builtin; refine wpList_append_rd _ rfl (.const (.slice none 0 0)) (.tmp 7) 22 rfl (w.heap.size + 3) 9 i0 (.string ⟨#[]⟩) 16 Try.underlying22 hi hz0 hz1 hz2 rfl (.slice none 0 0) 0 [] rfl (World.ownsRow_nil _ _ _ _) A _ ca (lv da) rfl hna.out (hra.grows (by repeat' first | exact Grows.refl _ | refine Grows.more ?_ _ | refine Grows.alloc ?_ _ | refine Grows.drew ?_)) (lv_one _) (by unfold maxLen; omega) (by omega) (by simp) ?_; intro v1 w2 hown hgrow; obtain ⟨m2, rfl⟩ := grown_none hgrow; clear hgrow; rw [Nat.zero_add, List.nil_append] at hown; obtain ⟨A1, c1, rfl, -, -, -, -⟩ := own_rd' (d := da) hown; have hown := Lib.hid hown)
  first
  | go_region_law (refine step_append_rd _ (by rfl) (.tmp 51) (.tmp 53) 22 (by rfl) (w.heap.size + 3) 9 i0 (.string ⟨#[]⟩) 16 Try.underlying22 hi hz0 hz1 hz2 (by rfl) (.slice A1 da.length c1) da.length (lv da) (by simp [Act.eval, Act.put]) (own_grows hown.out (by repeat' first | exact Grows.refl _ | refine Grows.more ?_ _ | refine Grows.alloc ?_ _ | refine Grows.drewN ?_ _ | refine Grows.drew ?_)) B db.length cb (lv db) (by simp [Act.eval, Act.put]) hnb.out (hrb.grows (by repeat' first | exact Grows.refl _ | refine Grows.more ?_ _ | refine Grows.alloc ?_ _ | refine Grows.drewN ?_ _ | refine Grows.drew ?_)) (lv_one _) (by unfold maxLen; omega) (by omega) (by first | (simp; done) | (simp; omega)) ?_; intro v3 w3 hown3 hgrow3; obtain ⟨m3, rfl⟩ := own_next3 (W := (((w.alloc (.cells #[.slice A da.length ca, .bool false] 68)).alloc (.cells #[.slice B db.length cb, .bool wb] 68)).alloc (.cells #[.slice none 0 0, .bool false] 68))) (by simp) (by repeat' first | exact Grows.refl _ | refine Grows.more ?_ _ | refine Grows.alloc ?_ _ | refine Grows.drewN ?_ _ | refine Grows.drew ?_) (own_grows hown.out (by repeat' first | exact Grows.refl _ | refine Grows.more ?_ _ | refine Grows.alloc ?_ _ | refine Grows.drewN ?_ _ | refine Grows.drew ?_)) hgrow3; clear hgrow3; rw [lv_append, ← List.length_append] at hown3; obtain ⟨A3, c3, rfl, hL⟩ := LRd.of_own (ok := fun b => w.heap.size + 3 ≤ b) hown3 (fun b hb => hb); clear hown3)
  | fail
  all_goals
    go_wp2_with fail
    exact bodyPost_ret (v := .agg #[.slice A3 (da ++ db).length c3, .bool wb]) (by simp [results, Try.results83, go_sem]) rfl ⟨A3, c3, rfl, ((hL.chg (chg_box _ _ _) (fun b _ hb hp => by simp at hb hp; omega)).mono (fun b _ hb => by omega)), (by repeat' first | exact Grows.refl _ | refine Grows.more ?_ _ | refine Grows.alloc ?_ _ | refine Grows.drew ?_)⟩
set_option maxRecDepth 3000 in
set_option maxHeartbeats 4000000 in
theorem rjoinB_f {ok ok' : Nat → Prop} (A B : Option Addr) (ca cb : Nat) (da db : List (List UInt8)) (wb : Bool) (w : World) (ha : LRd ok w A ca da) (hb : LRd ok' w B cb db) (hsum : da.length + db.length ≤ 1000000) (h1 : ¬ da.length = 0) (h2 : db.length = 0) :
    Calls Try.prog 83 #[.agg #[.slice A da.length ca, .bool false], .agg #[.slice B db.length cb, .bool wb]] w (NewReg ⟨da ++ db, wb⟩ w) := by
  obtain ⟨i0, hi, hz0, hz1, hz2⟩ := info_parts infoStr
  have hra := ha.rd
  have hrb := hb.rd
  have hna := Lib.hid ha.nil
  have hnb := Lib.hid hb.nil
  clear ha hb
  have h1' : (0 : Int) < (da.length : Int) := by omega
  have H1 := Lib.hid h1
  clear h1
  have h2' : ¬ (0 : Int) < (db.length : Int) := by omega
  have H2 := Lib.hid h2
  clear h2
  go_enter Try.func83, Try.ntmps83
  go_wp2_with (at_builtin; refine wpList_append_rd _ rfl (.const (.slice none 0 0)) (.tmp 7) 22 rfl (w.heap.size + 3) 9 i0 (.string ⟨#[]⟩) 16 Try.underlying22 hi hz0 hz1 hz2 rfl (.slice none 0 0) 0 [] rfl (World.ownsRow_nil _ _ _ _) A _ ca (lv da) rfl hna.out (hra.grows (by repeat' first | exact Grows.refl _ | refine Grows.more ?_ _ | refine Grows.alloc ?_ _ | refine Grows.drew ?_)) (lv_one _) (by unfold maxLen; omega) (by omega) (by simp) ?_; intro v1 w2 hown hgrow; obtain ⟨m2, rfl⟩ := grown_none hgrow; clear hgrow; rw [Nat.zero_add, List.nil_append] at hown; obtain ⟨A1, c1, rfl, -, -, -, -⟩ := own_rd' (d := da) hown; have hown := Lib.hid hown)
  first
  | go_region_law (refine step_append_rd _ (by rfl) (.tmp 51) (.tmp 53) 22 (by rfl) (w.heap.size + 3) 9 i0 (.string ⟨#[]⟩) 16 Try.underlying22 hi hz0 hz1 hz2 (by rfl) (.slice A1 da.length c1) da.length (lv da) (by simp [Act.eval, Act.put]) (own_grows hown.out (by repeat' first | exact Grows.refl _ | refine Grows.more ?_ _ | refine Grows.alloc ?_ _ | refine Grows.drewN ?_ _ | refine Grows.drew ?_)) B db.length cb (lv db) (by simp [Act.eval, Act.put]) hnb.out (hrb.grows (by repeat' first | exact Grows.refl _ | refine Grows.more ?_ _ | refine Grows.alloc ?_ _ | refine Grows.drewN ?_ _ | refine Grows.drew ?_)) (lv_one _) (by unfold maxLen; omega) (by omega) (by first | (simp; done) | (simp; omega)) ?_; intro v3 w3 hown3 hgrow3; obtain ⟨m3, rfl⟩ := own_next3 (W := (((w.alloc (.cells #[.slice A da.length ca, .bool false] 68)).alloc (.cells #[.slice B db.length cb, .bool wb] 68)).alloc (.cells #[.slice none 0 0, .bool false] 68))) (by simp) (by repeat' first | exact Grows.refl _ | refine Grows.more ?_ _ | refine Grows.alloc ?_ _ | refine Grows.drewN ?_ _ | refine Grows.drew ?_) (own_grows hown.out (by repeat' first | exact Grows.refl _ | refine Grows.more ?_ _ | refine Grows.alloc ?_ _ | refine Grows.drewN ?_ _ | refine Grows.drew ?_)) hgrow3; clear hgrow3; rw [lv_append, ← List.length_append] at hown3; obtain ⟨A3, c3, rfl, hL⟩ := LRd.of_own (ok := fun b => w.heap.size + 3 ≤ b) hown3 (fun b hb => hb); clear hown3)
  | fail
  all_goals
    go_wp2_with fail
    exact bodyPost_ret (v := .agg #[.slice A3 (da ++ db).length c3, .bool wb]) (by simp [results, Try.results83, go_sem]) rfl ⟨A3, c3, rfl, ((hL.chg (chg_box _ _ _) (fun b _ hb hp => by simp at hb hp; omega)).mono (fun b _ hb => by omega)), (by repeat' first | exact Grows.refl _ | refine Grows.more ?_ _ | refine Grows.alloc ?_ _ | refine Grows.drew ?_)⟩
set_option maxRecDepth 3000 in
set_option maxHeartbeats 4000000 in
theorem rjoinC_f {ok ok' : Nat → Prop} (A B : Option Addr) (ca cb : Nat) (da db : List (List UInt8)) (w : World) (ha : LRd ok w A ca da) (hb : LRd ok' w B cb db) (hsum : da.length + db.length ≤ 1000000) (h1 : ¬ da.length = 0) (h2 : ¬ db.length = 0) :
    Calls Try.prog 83 #[.agg #[.slice A da.length ca, .bool false], .agg #[.slice B db.length cb, .bool true]] w (NewReg ⟨da ++ db, true⟩ w) := by
  obtain ⟨i0, hi, hz0, hz1, hz2⟩ := info_parts infoStr
  have hra := ha.rd
  have hrb := hb.rd
  have hna := Lib.hid ha.nil
  have hnb := Lib.hid hb.nil
  clear ha hb
  have h1' : (0 : Int) < (da.length : Int) := by omega
  have H1 := Lib.hid h1
  clear h1
  have h2' : (0 : Int) < (db.length : Int) := by omega
  have H2 := Lib.hid h2
  clear h2
  go_enter Try.func83, Try.ntmps83
  go_wp2_with (at_builtin; refine wpList_append_rd _ rfl (.const (.slice none 0 0)) (.tmp 7) 22 rfl (w.heap.size + 3) 9 i0 (.string ⟨#[]⟩) 16 Try.underlying22 hi hz0 hz1 hz2 rfl (.slice none 0 0) 0 [] rfl (World.ownsRow_nil _ _ _ _) A _ ca (lv da) rfl hna.out (hra.grows (by repeat' first | exact Grows.refl _ | refine Grows.more ?_ _ | refine Grows.alloc ?_ _ | refine Grows.drew ?_)) (lv_one _) (by unfold maxLen; omega) (by omega) (by simp) ?_; intro v1 w2 hown hgrow; obtain ⟨m2, rfl⟩ := grown_none hgrow; clear hgrow; rw [Nat.zero_add, List.nil_append] at hown; obtain ⟨A1, c1, rfl, -, -, -, -⟩ := own_rd' (d := da) hown; have hown := Lib.hid hown)
  first
  | go_region_law (refine step_append_rd _ (by rfl) (.tmp 51) (.tmp 53) 22 (by rfl) (w.heap.size + 3) 9 i0 (.string ⟨#[]⟩) 16 Try.underlying22 hi hz0 hz1 hz2 (by rfl) (.slice A1 da.length c1) da.length (lv da) (by simp [Act.eval, Act.put]) (own_grows hown.out (by repeat' first | exact Grows.refl _ | refine Grows.more ?_ _ | refine Grows.alloc ?_ _ | refine Grows.drewN ?_ _ | refine Grows.drew ?_)) B db.length cb (lv db) (by simp [Act.eval, Act.put]) hnb.out (hrb.grows (by repeat' first | exact Grows.refl _ | refine Grows.more ?_ _ | refine Grows.alloc ?_ _ | refine Grows.drewN ?_ _ | refine Grows.drew ?_)) (lv_one _) (by unfold maxLen; omega) (by omega) (by first | (simp; done) | (simp; omega)) ?_; intro v3 w3 hown3 hgrow3; obtain ⟨m3, rfl⟩ := own_next3 (W := (((w.alloc (.cells #[.slice A da.length ca, .bool false] 68)).alloc (.cells #[.slice B db.length cb, .bool true] 68)).alloc (.cells #[.slice none 0 0, .bool false] 68))) (by simp) (by repeat' first | exact Grows.refl _ | refine Grows.more ?_ _ | refine Grows.alloc ?_ _ | refine Grows.drewN ?_ _ | refine Grows.drew ?_) (own_grows hown.out (by repeat' first | exact Grows.refl _ | refine Grows.more ?_ _ | refine Grows.alloc ?_ _ | refine Grows.drewN ?_ _ | refine Grows.drew ?_)) hgrow3; clear hgrow3; rw [lv_append, ← List.length_append] at hown3; obtain ⟨A3, c3, rfl, hL⟩ := LRd.of_own (ok := fun b => w.heap.size + 3 ≤ b) hown3 (fun b hb => hb); clear hown3)
  | fail
  all_goals
    go_wp2_with fail
    exact bodyPost_ret (v := .agg #[.slice A3 (da ++ db).length c3, .bool true]) (by simp [results, Try.results83, go_sem]) rfl ⟨A3, c3, rfl, ((hL.chg (chg_box _ _ _) (fun b _ hb hp => by simp at hb hp; omega)).mono (fun b _ hb => by omega)), (by repeat' first | exact Grows.refl _ | refine Grows.more ?_ _ | refine Grows.alloc ?_ _ | refine Grows.drew ?_)⟩
set_option maxRecDepth 3000 in
set_option maxHeartbeats 4000000 in
theorem rjoinA_t {ok ok' : Nat → Prop} (A B : Option Addr) (ca cb : Nat) (da db : List (List UInt8)) (wb : Bool) (w : World) (ha : LRd ok w A ca da) (hb : LRd ok' w B cb db) (hsum : da.length + db.length ≤ 1000000) (h1 : da.length = 0) :
    Calls Try.prog 83 #[.agg #[.slice A da.length ca, .bool true], .agg #[.slice B db.length cb, .bool wb]] w (NewReg ⟨da ++ db, true⟩ w) := by
  obtain ⟨i0, hi, hz0, hz1, hz2⟩ := info_parts infoStr
  have hra := ha.rd
  have hrb := hb.rd
  have hna := Lib.hid ha.nil
  have hnb := Lib.hid hb.nil
  clear ha hb
  have h1' : ¬ (0 : Int) < (da.length : Int) := by omega
  have H1 := Lib.hid h1
  clear h1
  go_enter Try.func83, Try.ntmps83
  go_wp2_with (at_builtin; refine wpList_append_rd _ rfl (.const (.slice none 0 0)) (.tmp 7) 22 rfl (w.heap.size + 3) 9 i0 (.string ⟨#[]⟩) 16 Try.underlying22 hi hz0 hz1 hz2 rfl (.slice none 0 0) 0 [] rfl (World.ownsRow_nil _ _ _ _) A _ ca (lv da) rfl hna.out (hra.grows (by repeat' first | exact Grows.refl _ | refine Grows.more ?_ _ | refine Grows.alloc ?_ _ | refine Grows.drew ?_)) (lv_one _) (by unfold maxLen; omega) (by omega) (by simp) ?_; intro v1 w2 hown hgrow; obtain ⟨m2, rfl⟩ := grown_none hgrow; clear hgrow; rw [Nat.zero_add, List.nil_append] at hown; obtain ⟨A1, c1, rfl, -, -, -, -⟩ := own_rd' (d := da) hown; have hown := Lib.hid hown)
  first
  | go_region_law (refine step_append_rd _ (by rfl) (.tmp 51) (.tmp 53) 22 (by rfl) (w.heap.size + 3) 9 i0 (.string ⟨#[]⟩) 16 Try.underlying22 hi hz0 hz1 hz2 (by rfl) (.slice A1 da.length c1) da.length (lv da) (by simp [Act.eval, Act.put]) (own_grows hown.out (by repeat' first | exact Grows.refl _ | refine Grows.more ?_ _ | refine Grows.alloc ?_ _ | refine Grows.drewN ?_ _ | refine Grows.drew ?_)) B db.length cb (lv db) (by simp [Act.eval, Act.put]) hnb.out (hrb.grows (by repeat' first | exact Grows.refl _ | refine Grows.more ?_ _ | refine Grows.alloc ?_ _ | refine Grows.drewN ?_ _ | refine Grows.drew ?_)) (lv_one _) (by unfold maxLen; omega) (by omega) (by first | (simp; done) | (simp; omega)) ?_; intro v3 w3 hown3 hgrow3; obtain ⟨m3, rfl⟩ := own_next3 (W := (((w.alloc (.cells #[.slice A da.length ca, .bool true] 68)).alloc (.cells #[.slice B db.length cb, .bool wb] 68)).alloc (.cells #[.slice none 0 0, .bool false] 68))) (by simp) (by repeat' first | exact Grows.refl _ | refine Grows.more ?_ _ | refine Grows.alloc ?_ _ | refine Grows.drewN ?_ _ | refine Grows.drew ?_) (own_grows hown.out (by repeat' first | exact Grows.refl _ | refine Grows.more ?_ _ | refine Grows.alloc ?_ _ | refine Grows.drewN ?_ _ | refine Grows.drew ?_)) hgrow3; clear hgrow3; rw [lv_append, ← List.length_append] at hown3; obtain ⟨A3, c3, rfl, hL⟩ := LRd.of_own (ok := fun b => w.heap.size + 3 ≤ b) hown3 (fun b hb => hb); clear hown3)
  | fail
  all_goals
    go_wp2_with fail
    exact bodyPost_ret (v := .agg #[.slice A3 (da ++ db).length c3, .bool true]) (by simp [results, Try.results83, go_sem]) rfl ⟨A3, c3, rfl, ((hL.chg (chg_box _ _ _) (fun b _ hb hp => by simp at hb hp; omega)).mono (fun b _ hb => by omega)), (by repeat' first | exact Grows.refl _ | refine Grows.more ?_ _ | refine Grows.alloc ?_ _ | refine Grows.drew ?_)⟩
set_option maxRecDepth 3000 in
set_option maxHeartbeats 4000000 in
theorem rjoinB_t {ok ok' : Nat → Prop} (A B : Option Addr) (ca cb : Nat) (da db : List (List UInt8)) (wb : Bool) (w : World) (ha : LRd ok w A ca da) (hb : LRd ok' w B cb db) (hsum : da.length + db.length ≤ 1000000) (h1 : ¬ da.length = 0) (h2 : db.length = 0) :
    Calls Try.prog 83 #[.agg #[.slice A da.length ca, .bool true], .agg #[.slice B db.length cb, .bool wb]] w (NewReg ⟨da ++ db, true⟩ w) := by
  obtain ⟨i0, hi, hz0, hz1, hz2⟩ := info_parts infoStr
  have hra := ha.rd
  have hrb := hb.rd
  have hna := Lib.hid ha.nil
  have hnb := Lib.hid hb.nil
  clear ha hb
  have h1' : (0 : Int) < (da.length : Int) := by omega
  have H1 := Lib.hid h1
  clear h1
  have h2' : ¬ (0 : Int) < (db.length : Int) := by omega
  have H2 := Lib.hid h2
  clear h2
  go_enter Try.func83, Try.ntmps83
  go_wp2_with (at_builtin; refine wpList_append_rd _ rfl (.const (.slice none 0 0)) (.tmp 7) 22 rfl (w.heap.size + 3) 9 i0 (.string ⟨#[]⟩) 16 Try.underlying22 hi hz0 hz1 hz2 rfl (.slice none 0 0) 0 [] rfl (World.ownsRow_nil _ _ _ _) A _ ca (lv da) rfl hna.out (hra.grows (by repeat' first | exact Grows.refl _ | refine Grows.more ?_ _ | refine Grows.alloc ?_ _ | refine Grows.drew ?_)) (lv_one _) (by unfold maxLen; omega) (by omega) (by simp) ?_; intro v1 w2 hown hgrow; obtain ⟨m2, rfl⟩ := grown_none hgrow; clear hgrow; rw [Nat.zero_add, List.nil_append] at hown; obtain ⟨A1, c1, rfl, -, -, -, -⟩ := own_rd' (d := da) hown; have hown := Lib.hid hown)
  first
  | go_region_law (refine step_append_rd _ (by rfl) (.tmp 51) (.tmp 53) 22 (by rfl) (w.heap.size + 3) 9 i0 (.string ⟨#[]⟩) 16 Try.underlying22 hi hz0 hz1 hz2 (by rfl) (.slice A1 da.length c1) da.length (lv da) (by simp [Act.eval, Act.put]) (own_grows hown.out (by repeat' first | exact Grows.refl _ | refine Grows.more ?_ _ | refine Grows.alloc ?_ _ | refine Grows.drewN ?_ _ | refine Grows.drew ?_)) B db.length cb (lv db) (by simp [Act.eval, Act.put]) hnb.out (hrb.grows (by repeat' first | exact Grows.refl _ | refine Grows.more ?_ _ | refine Grows.alloc ?_ _ | refine Grows.drewN ?_ _ | refine Grows.drew ?_)) (lv_one _) (by unfold maxLen; omega) (by omega) (by first | (simp; done) | (simp; omega)) ?_; intro v3 w3 hown3 hgrow3; obtain ⟨m3, rfl⟩ := own_next3 (W := (((w.alloc (.cells #[.slice A da.length ca, .bool true] 68)).alloc (.cells #[.slice B db.length cb, .bool wb] 68)).alloc (.cells #[.slice none 0 0, .bool false] 68))) (by simp) (by repeat' first | exact Grows.refl _ | refine Grows.more ?_ _ | refine Grows.alloc ?_ _ | refine Grows.drewN ?_ _ | refine Grows.drew ?_) (own_grows hown.out (by repeat' first | exact Grows.refl _ | refine Grows.more ?_ _ | refine Grows.alloc ?_ _ | refine Grows.drewN ?_ _ | refine Grows.drew ?_)) hgrow3; clear hgrow3; rw [lv_append, ← List.length_append] at hown3; obtain ⟨A3, c3, rfl, hL⟩ := LRd.of_own (ok := fun b => w.heap.size + 3 ≤ b) hown3 (fun b hb => hb); clear hown3)
  | fail
  all_goals
    go_wp2_with fail
    exact bodyPost_ret (v := .agg #[.slice A3 (da ++ db).length c3, .bool true]) (by simp [results, Try.results83, go_sem]) rfl ⟨A3, c3, rfl, ((hL.chg (chg_box _ _ _) (fun b _ hb hp => by simp at hb hp; omega)).mono (fun b _ hb => by omega)), (by repeat' first | exact Grows.refl _ | refine Grows.more ?_ _ | refine Grows.alloc ?_ _ | refine Grows.drew ?_)⟩
set_option maxRecDepth 3000 in
set_option maxHeartbeats 4000000 in
theorem rjoinC_t {ok ok' : Nat → Prop} (A B : Option Addr) (ca cb : Nat) (da db : List (List UInt8)) (wb : Bool) (w : World) (ha : LRd ok w A ca da) (hb : LRd ok' w B cb db) (hsum : da.length + db.length ≤ 1000000) (h1 : ¬ da.length = 0) (h2 : ¬ db.length = 0) :
    Calls Try.prog 83 #[.agg #[.slice A da.length ca, .bool true], .agg #[.slice B db.length cb, .bool wb]] w (NewReg ⟨da ++ db, true⟩ w) := by
  obtain ⟨i0, hi, hz0, hz1, hz2⟩ := info_parts infoStr
  have hra := ha.rd
  have hrb := hb.rd
  have hna := Lib.hid ha.nil
  have hnb := Lib.hid hb.nil
  clear ha hb
  have h1' : (0 : Int) < (da.length : Int) := by omega
  have H1 := Lib.hid h1
  clear h1
  have h2' : (0 : Int) < (db.length : Int) := by omega
  have H2 := Lib.hid h2
  clear h2
  go_enter Try.func83, Try.ntmps83
  go_wp2_with (at_builtin; refine wpList_append_rd _ rfl (.const (.slice none 0 0)) (.tmp 7) 22 rfl (w.heap.size + 3) 9 i0 (.string ⟨#[]⟩) 16 Try.underlying22 hi hz0 hz1 hz2 rfl (.slice none 0 0) 0 [] rfl (World.ownsRow_nil _ _ _ _) A _ ca (lv da) rfl hna.out (hra.grows (by repeat' first | exact Grows.refl _ | refine Grows.more ?_ _ | refine Grows.alloc ?_ _ | refine Grows.drew ?_)) (lv_one _) (by unfold maxLen; omega) (by omega) (by simp) ?_; intro v1 w2 hown hgrow; obtain ⟨m2, rfl⟩ := grown_none hgrow; clear hgrow; rw [Nat.zero_add, List.nil_append] at hown; obtain ⟨A1, c1, rfl, -, -, -, -⟩ := own_rd' (d := da) hown; have hown := Lib.hid hown)
  first
  | go_region_law (refine step_append_rd _ (by rfl) (.tmp 51) (.tmp 53) 22 (by rfl) (w.heap.size + 3) 9 i0 (.string ⟨#[]⟩) 16 Try.underlying22 hi hz0 hz1 hz2 (by rfl) (.slice A1 da.length c1) da.length (lv da) (by simp [Act.eval, Act.put]) (own_grows hown.out (by repeat' first | exact Grows.refl _ | refine Grows.more ?_ _ | refine Grows.alloc ?_ _ | refine Grows.drewN ?_ _ | refine Grows.drew ?_)) B db.length cb (lv db) (by simp [Act.eval, Act.put]) hnb.out (hrb.grows (by repeat' first | exact Grows.refl _ | refine Grows.more ?_ _ | refine Grows.alloc ?_ _ | refine Grows.drewN ?_ _ | refine Grows.drew ?_)) (lv_one _) (by unfold maxLen; omega) (by omega) (by first | (simp; done) | (simp; omega)) ?_; intro v3 w3 hown3 hgrow3; obtain ⟨m3, rfl⟩ := own_next3 (W := (((w.alloc (.cells #[.slice A da.length ca, .bool true] 68)).alloc (.cells #[.slice B db.length cb, .bool wb] 68)).alloc (.cells #[.slice none 0 0, .bool false] 68))) (by simp) (by repeat' first | exact Grows.refl _ | refine Grows.more ?_ _ | refine Grows.alloc ?_ _ | refine Grows.drewN ?_ _ | refine Grows.drew ?_) (own_grows hown.out (by repeat' first | exact Grows.refl _ | refine Grows.more ?_ _ | refine Grows.alloc ?_ _ | refine Grows.drewN ?_ _ | refine Grows.drew ?_)) hgrow3; clear hgrow3; rw [lv_append, ← List.length_append] at hown3; obtain ⟨A3, c3, rfl, hL⟩ := LRd.of_own (ok := fun b => w.heap.size + 3 ≤ b) hown3 (fun b hb => hb); clear hown3)
  | fail
  all_goals
    go_wp2_with fail
    exact bodyPost_ret (v := .agg #[.slice A3 (da ++ db).length c3, .bool true]) (by simp [results, Try.results83, go_sem]) rfl ⟨A3, c3, rfl, ((hL.chg (chg_box _ _ _) (fun b _ hb hp => by simp at hb hp; omega)).mono (fun b _ hb => by omega)), (by repeat' first | exact Grows.refl _ | refine Grows.more ?_ _ | refine Grows.alloc ?_ _ | refine Grows.drew ?_)⟩
end Go.Proofs.Ythanghgfakibnaa
