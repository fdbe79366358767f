/-
  Several texts of the proof: MarksWalks, MarksSet.
-/
import Derived.Test.YthanghgfakibnaaPk04
/-
  Marks: the walks of marks.Line and of the document's Line.
-/
namespace Go.Proofs.Ythanghgfakibnaa
open Go.RowKit

set_option maxRecDepth 3000 in
set_option maxHeartbeats 400000 in
theorem markLine_any (n at_ del : Int) (A : Option Addr) (len cap : Nat) (w : World) (hn : I64 n) (ha : I64 at_) (hd : I64 del) (_hl : len ≤ 9223372036854775807) :
    Calls Try.prog 45 #[.int .i64 n, .agg #[.int .i64 at_, .int .i64 del, .slice A len cap]] w fun e w' =>
      e = .returned (.tuple #[.int .i64 (lineV n at_ del len).1, .bool (lineV n at_ del len).2]) ∧ Grows w w' := by
  unfold I64 at hn ha hd
  go_enter Try.func45, Try.ntmps45
  go_wp2
  all_goals
    go_ret2
    refine ⟨?_, (Grows.refl _).alloc _⟩
    unfold lineV
    repeat' split
  all_goals first | rfl | (exfalso; omega)

set_option maxRecDepth 3000 in
theorem ref_wrap (n del len : Int) : wrap64 (wrap64 (n + len) - del) = wrap64 (n - del + len) := by
  unfold wrap64
  omega

set_option maxRecDepth 3000 in
set_option maxHeartbeats 400000 in
theorem refLine_any (n at_ del : Int) (A : Option Addr) (len cap : Nat) (w : World) (hn : I64 n) (ha : I64 at_) (hd : I64 del) (_hl : len ≤ 9223372036854775807) :
    Calls Try.prog 80 #[.int .i64 n, .agg #[.int .i64 at_, .int .i64 del, .slice A len cap]] w fun e w' =>
      e = .returned (.tuple #[.int .i64 (lineV n at_ del len).1, .bool (lineV n at_ del len).2]) ∧ Grows w w' := by
  unfold I64 at hn ha hd
  go_enter Try.func80, Try.ntmps80
  go_wp2
  all_goals
    go_ret2
    refine ⟨?_, (Grows.refl _).alloc _⟩
    unfold lineV
    repeat' split
  all_goals first | rfl | (exfalso; omega) | (rw [ref_wrap]; rfl)

set_option maxRecDepth 3000 in
theorem zero23 (w : World) : (zeroValue 36).run Try.prog w = .ok (.agg (MA zeros)) w := by kernel_rfl
set_option maxRecDepth 3000 in
theorem equal23 (w : World) (x : List Int) (h : x.length = 26) : (Op.equalIn 10000 36 (.agg (MA x)) (.agg (MA x))).run Try.prog w = .ok true w := by
  refine run_equalIn_array_same w 9999 36 3 26 (MA x) Try.underlying36 Try.sizeOf3 fun i hi => ⟨.int .i64 (x[i]'(by omega)), fun w => ⟨?_, ?_⟩⟩
  · simp [go_sem, h, hi]
  · simp [go_sem]
attribute [local go_sem ↓] zero23
attribute [local go_sem] set_MA
set_option maxRecDepth 3000 in
set_option maxHeartbeats 1000000 in
theorem markShift_any (ms : List Int) (at_ del : Int) (A : Option Addr) (len cap : Nat) (w : World) (hms : ms.length = 26) (hm : ∀ n ∈ ms, I64 n) (ha : I64 at_) (hd : I64 del) (hl : len ≤ 9223372036854775807) :
    Calls Try.prog 44 #[.agg (MA ms), .agg #[.int .i64 at_, .int .i64 del, .slice A len cap]] w fun e w' =>
      e = .returned (.agg (MA (shiftV ms at_ del len))) ∧ Grows w w' := by
  go_enter Try.func44, Try.ntmps44
  go_wp2
  go_loopw [8] (fun i wr => ∃ k : Nat, k ≤ 26 ∧ i = .int .i64 k ∧ ∃ m, wr = more (((w.alloc (.cells (MA (shiftTo ms at_ del len k)) 36)).alloc (.cells #[.int .i64 at_, .int .i64 del, .slice A len cap] 24)).alloc (.cells (MA zeros) 36)) m) (fun i _ => 26 - (intOf i).toNat)
  case atStart => exact ⟨0, by omega, rfl, _, by rw [shiftTo_zero]; exact more_self _⟩
  case round =>
    obtain ⟨k, hk, rfl, m, rfl⟩ := hrel
    by_cases hlt : k < 26
    · have H3 := Lib.hid (shiftTo_set ms at_ del len k (by omega))
      have hmk : I64 (ms[k]'(by omega)) := hm _ (List.getElem_mem _)
      go_wp2_with (go_at_call 45; refine (markLine_any _ _ _ _ _ _ _ hmk ha hd hl).mono ?_; rintro e w' ⟨rfl, m', rfl⟩)
      exact ⟨⟨k + 1, by omega, by go_num, _, by rw [H3.out, more_more]⟩, by simp [intOf]; omega⟩
    · have hk26 : k = 26 := by omega
      subst hk26
      have h4 := Lib.hid (shiftTo_all ms at_ del len 26 (by omega))
      go_wp2
      refine bodyPost_ret (v := .agg (MA (shiftTo ms at_ del len 26))) (by simp [results, Try.results44, go_sem, hms]) rfl ⟨by rw [h4.out], ?_⟩
      exact ((((Grows.refl w).alloc _).alloc _).alloc _).more _

set_option maxRecDepth 3000 in
set_option maxHeartbeats 1000000 in
theorem refShift_any (ms : List Int) (at_ del : Int) (A : Option Addr) (len cap : Nat) (w : World) (hms : ms.length = 26) (hm : ∀ n ∈ ms, I64 n) (ha : I64 at_) (hd : I64 del) (hl : len ≤ 9223372036854775807) :
    Calls Try.prog 79 #[.agg (MA ms), .agg #[.int .i64 at_, .int .i64 del, .slice A len cap]] w fun e w' =>
      e = .returned (.agg (MA (shiftV ms at_ del len))) ∧ Grows w w' := by
  have hlen : ∀ k, (shiftOnto zeros ms at_ del len k).length = 26 := fun k => (length_shiftOnto zeros ms at_ del len k (by simp [hms])).trans hms
  go_enter Try.func79, Try.ntmps79
  go_wp2
  go_loopw [6] (fun i wr => ∃ k : Nat, k ≤ 26 ∧ i = .int .i64 k ∧ ∃ m, wr = more ((((w.alloc (.cells (MA ms) 36)).alloc (.cells #[.int .i64 at_, .int .i64 del, .slice A len cap] 24)).alloc (.cells (MA zeros) 36)).alloc (.cells (MA (shiftOnto zeros ms at_ del len k)) 36)) m) (fun i _ => 26 - (intOf i).toNat)
  case atStart => exact ⟨0, by omega, rfl, _, by rw [shiftOnto_zero]; exact more_self _⟩
  case round =>
    obtain ⟨k, hk, rfl, m, rfl⟩ := hrel
    by_cases hlt : k < 26
    · have H3 := Lib.hid (shiftOnto_set zeros ms at_ del len k (by omega) (by simp; omega))
      have hmk : I64 (ms[k]'(by omega)) := hm _ (List.getElem_mem _)
      have hk0 : (0 : Int) ≤ (k : Int) := Int.natCast_nonneg _
      have hk1 : (k : Int) < 26 := by omega
      go_wp2_with fail
      go_region_held3 (fun w' => w'.cell? ⟨w.heap.size, k, none⟩ = some (.int .i64 (ms[k]'(by omega))) ∧ w'.cell? ⟨w.heap.size + 1, 0, none⟩ = some (.int .i64 at_) ∧ w'.cell? ⟨w.heap.size + 1, 1, none⟩ = some (.int .i64 del) ∧ w'.cell? ⟨w.heap.size + 1, 2, none⟩ = some (.slice A len cap))
        (first | (simp [go_sem, hms, hlt]; done))
        (first | (go_at_call 80; refine (refLine_any _ _ _ _ _ _ _ hmk ha hd hl).mono ?_; rintro e w' ⟨rfl, m', rfl⟩))
      go_wp2
      exact ⟨⟨k + 1, by omega, by go_num, _, by rw [H3.out, more_more]⟩, by simp [intOf]; omega⟩
    · have hk26 : k = 26 := by omega
      subst hk26
      have h4 := Lib.hid (shiftOnto_all zeros ms at_ del len 26 (by omega) (by simp [hms]))
      go_wp2
      refine bodyPost_ret (v := .agg (MA (shiftOnto zeros ms at_ del len 26))) (by simp [results, Try.results79, go_sem, hlen]) rfl ⟨by rw [h4.out], ?_⟩
      exact (((((Grows.refl w).alloc _).alloc _).alloc _).alloc _).more _

end Go.Proofs.Ythanghgfakibnaa

/-
  Marks: the walks of marks.Set, Get and of the document's.
-/
namespace Go.Proofs.Ythanghgfakibnaa
open Go.RowKit
attribute [local go_sem ↓] zero23
attribute [local go_sem] set_MA
set_option maxRecDepth 3000 in
set_option maxHeartbeats 400000 in
theorem place_yes (j : Nat) (w : World) (hj : j < 26) :
    Calls Try.prog 66 #[.int .u8 (97 + j)] w fun e w' => e = .returned (.tuple #[.int .i64 j, .bool true]) ∧ w = w' := by
  go_enter Try.func66, Try.ntmps66
  go_wp2
  go_ret2
  exact ⟨by simp; omega, rfl⟩
set_option maxRecDepth 3000 in
set_option maxHeartbeats 400000 in
theorem place_no (c : Int) (w : World) (h0 : 0 ≤ c) (h1 : c ≤ 255) (h : c < 97 ∨ 122 < c) :
    Calls Try.prog 66 #[.int .u8 c] w fun e w' => e = .returned (.tuple #[.int .i64 (c - 97), .bool false]) ∧ w = w' := by
  rcases h with h | h
  · go_enter Try.func66, Try.ntmps66
    go_wp2
    go_ret2
    exact ⟨by simp, rfl⟩
  · go_enter Try.func66, Try.ntmps66
    go_wp2
    go_ret2
    exact ⟨by simp; omega, rfl⟩


set_option maxRecDepth 3000 in
set_option maxHeartbeats 400000 in
theorem set_no (ms : List Int) (c line n : Int) (w : World) (hms : ms.length = 26) (h0 : 0 ≤ c) (h1 : c ≤ 255) (h : c < 97 ∨ 122 < c) :
    Calls Try.prog 40 #[.agg (MA ms), .int .u8 c, .int .i64 line, .int .i64 n] w fun e w' =>
      e = .returned (.tuple #[.agg (MA zeros), .int .i64 202]) ∧ Grows w w' := by
  go_enter Try.func40, Try.ntmps40
  go_wp2_with (go_at_call 66; refine (place_no _ _ h0 h1 h).mono ?_; rintro e w' ⟨rfl, rfl⟩)
  exact bodyPost_ret (v := .tuple #[.agg (MA (zeros)), .int .i64 202]) (by simp [results, Try.results40, go_sem, hms]) rfl ⟨rfl, ((Grows.refl w).alloc _).alloc _⟩

set_option maxRecDepth 3000 in
set_option maxHeartbeats 400000 in
theorem set_addr (ms : List Int) (j : Nat) (line n : Int) (w : World) (hms : ms.length = 26) (hj : j < 26) (h : line < 1 ∨ n < line) :
    Calls Try.prog 40 #[.agg (MA ms), .int .u8 (97 + j), .int .i64 line, .int .i64 n] w fun e w' =>
      e = .returned (.tuple #[.agg (MA zeros), .int .i64 200]) ∧ Grows w w' := by
  by_cases h2 : line < 1
  · go_enter Try.func40, Try.ntmps40
    go_wp2_with (go_at_call 66; refine (place_yes _ _ hj).mono ?_; rintro e w' ⟨rfl, rfl⟩)
    exact bodyPost_ret (v := .tuple #[.agg (MA (zeros)), .int .i64 200]) (by simp [results, Try.results40, go_sem, hms]) rfl ⟨rfl, ((Grows.refl w).alloc _).alloc _⟩
  · have h3 : n < line := by omega
    clear h
    go_enter Try.func40, Try.ntmps40
    go_wp2_with (go_at_call 66; refine (place_yes _ _ hj).mono ?_; rintro e w' ⟨rfl, rfl⟩)
    exact bodyPost_ret (v := .tuple #[.agg (MA (zeros)), .int .i64 200]) (by simp [results, Try.results40, go_sem, hms]) rfl ⟨rfl, ((Grows.refl w).alloc _).alloc _⟩

set_option maxRecDepth 3000 in
set_option maxHeartbeats 400000 in
theorem set_good (ms : List Int) (j : Nat) (line n : Int) (w : World) (hms : ms.length = 26) (hj : j < 26) (h2 : 1 ≤ line) (h3 : line ≤ n) :
    Calls Try.prog 40 #[.agg (MA ms), .int .u8 (97 + j), .int .i64 line, .int .i64 n] w fun e w' =>
      e = .returned (.tuple #[.agg (MA (ms.set j line)), .int .i64 0]) ∧ Grows w w' := by
  go_enter Try.func40, Try.ntmps40
  go_wp2_with (go_at_call 66; refine (place_yes _ _ hj).mono ?_; rintro e w' ⟨rfl, rfl⟩)
  exact bodyPost_ret (v := .tuple #[.agg (MA (ms.set j line)), .int .i64 0]) (by simp [results, Try.results40, go_sem, hms]) rfl ⟨rfl, ((Grows.refl w).alloc _).alloc _⟩

set_option maxRecDepth 3000 in
theorem markSet_any (ms : List Int) (c line n : Int) (w : World) (hms : ms.length = 26) (h0 : 0 ≤ c) (h1 : c ≤ 255) :
    Calls Try.prog 40 #[.agg (MA ms), .int .u8 c, .int .i64 line, .int .i64 n] w fun e w' =>
      e = .returned (.tuple #[.agg (MA (setV ms c line n).1), .int .i64 (setV ms c line n).2]) ∧ Grows w w' := by
  by_cases h : c < 97 ∨ 122 < c
  · rw [setV_bad _ _ _ _ h]; exact set_no ms c line n w hms h0 h1 h
  · obtain ⟨j, rfl⟩ : ∃ j : Nat, c = 97 + j := ⟨(c - 97).toNat, by omega⟩
    have hj : j < 26 := by omega
    by_cases h2 : line < 1 ∨ n < line
    · rw [setV_addr _ _ _ _ hj h2]; exact set_addr ms j line n w hms hj h2
    · rw [setV_good _ _ _ _ hj h2]; exact set_good ms j line n w hms hj (by omega) (by omega)

set_option maxRecDepth 3000 in
set_option maxHeartbeats 400000 in
theorem refSet_no (ms : List Int) (c line n : Int) (w : World) (hms : ms.length = 26) (h0 : 0 ≤ c) (h1 : c ≤ 255) (h : c < 97 ∨ 122 < c) :
    Calls Try.prog 81 #[.agg (MA ms), .int .u8 c, .int .i64 line, .int .i64 n] w fun e w' =>
      e = .returned (.tuple #[.agg (MA zeros), .int .i64 202]) ∧ Grows w w' := by
  rcases h with h | h
  · go_enter Try.func81, Try.ntmps81
    go_wp2
    exact bodyPost_ret (v := .tuple #[.agg (MA (zeros)), .int .i64 202]) (by simp [results, Try.results81, go_sem, hms]) rfl ⟨rfl, ((Grows.refl w).alloc _).alloc _⟩
  · go_enter Try.func81, Try.ntmps81
    go_wp2
    exact bodyPost_ret (v := .tuple #[.agg (MA (zeros)), .int .i64 202]) (by simp [results, Try.results81, go_sem, hms]) rfl ⟨rfl, ((Grows.refl w).alloc _).alloc _⟩

set_option maxRecDepth 3000 in
set_option maxHeartbeats 400000 in
theorem refSet_addr (ms : List Int) (j : Nat) (line n : Int) (w : World) (hms : ms.length = 26) (hj : j < 26) (h : line < 1 ∨ n < line) :
    Calls Try.prog 81 #[.agg (MA ms), .int .u8 (97 + j), .int .i64 line, .int .i64 n] w fun e w' =>
      e = .returned (.tuple #[.agg (MA zeros), .int .i64 200]) ∧ Grows w w' := by
  by_cases h2 : line < 1
  · go_enter Try.func81, Try.ntmps81
    go_wp2
    exact bodyPost_ret (v := .tuple #[.agg (MA (zeros)), .int .i64 200]) (by simp [results, Try.results81, go_sem, hms]) rfl ⟨rfl, ((Grows.refl w).alloc _).alloc _⟩
  · have h3 : n < line := by omega
    clear h
    go_enter Try.func81, Try.ntmps81
    go_wp2
    exact bodyPost_ret (v := .tuple #[.agg (MA (zeros)), .int .i64 200]) (by simp [results, Try.results81, go_sem, hms]) rfl ⟨rfl, ((Grows.refl w).alloc _).alloc _⟩

set_option maxRecDepth 3000 in
set_option maxHeartbeats 400000 in
theorem refSet_good (ms : List Int) (j : Nat) (line n : Int) (w : World) (hms : ms.length = 26) (hj : j < 26) (h2 : 1 ≤ line) (h3 : line ≤ n) :
    Calls Try.prog 81 #[.agg (MA ms), .int .u8 (97 + j), .int .i64 line, .int .i64 n] w fun e w' =>
      e = .returned (.tuple #[.agg (MA (ms.set j line)), .int .i64 0]) ∧ Grows w w' := by
  go_enter Try.func81, Try.ntmps81
  go_wp2
  exact bodyPost_ret (v := .tuple #[.agg (MA (ms.set j line)), .int .i64 0]) (by simp [results, Try.results81, go_sem, hms]) rfl ⟨rfl, ((Grows.refl w).alloc _).alloc _⟩

set_option maxRecDepth 3000 in
theorem markRefSet_any (ms : List Int) (c line n : Int) (w : World) (hms : ms.length = 26) (h0 : 0 ≤ c) (h1 : c ≤ 255) :
    Calls Try.prog 81 #[.agg (MA ms), .int .u8 c, .int .i64 line, .int .i64 n] w fun e w' =>
      e = .returned (.tuple #[.agg (MA (setV ms c line n).1), .int .i64 (setV ms c line n).2]) ∧ Grows w w' := by
  by_cases h : c < 97 ∨ 122 < c
  · rw [setV_bad _ _ _ _ h]; exact refSet_no ms c line n w hms h0 h1 h
  · obtain ⟨j, rfl⟩ : ∃ j : Nat, c = 97 + j := ⟨(c - 97).toNat, by omega⟩
    have hj : j < 26 := by omega
    by_cases h2 : line < 1 ∨ n < line
    · rw [setV_addr _ _ _ _ hj h2]; exact refSet_addr ms j line n w hms hj h2
    · rw [setV_good _ _ _ _ hj h2]; exact refSet_good ms j line n w hms hj (by omega) (by omega)

end Go.Proofs.Ythanghgfakibnaa
