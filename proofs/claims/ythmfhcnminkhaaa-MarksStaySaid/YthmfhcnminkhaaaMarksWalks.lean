/-
  Marks: the walks of marks.Line and of the document's Line.
-/
import Derived.Test.YthmfhcnminkhaaaMarksPlain
namespace Go.Proofs.Ythmfhcnminkhaaa
open Go.RowKit

set_option maxHeartbeats 400000 in
theorem line_any (n at_ del : Int) (A : Option Addr) (len cap : Nat) (w : World) (hn : I64 n) (ha : I64 at_) (hd : I64 del) (_hl : len ≤ 9223372036854775807) :
    Calls Try.prog 12 #[.int .i64 n, .agg #[.int .i64 at_, .int .i64 del, .slice A len cap]] w fun e w' =>
      e = .returned (.tuple #[.int .i64 (lineV n at_ del len).1, .bool (lineV n at_ del len).2]) ∧ Grows w w' := by
  unfold I64 at hn ha hd
  go_enter Try.func12, Try.ntmps12
  go_wp2
  all_goals
    go_ret2
    refine ⟨?_, (Grows.refl _).alloc _⟩
    unfold lineV
    repeat' split
  all_goals first | rfl | (exfalso; omega)

theorem ref_wrap (n del len : Int) : wrap64 (wrap64 (n + len) - del) = wrap64 (n - del + len) := by
  unfold wrap64
  omega

set_option maxHeartbeats 400000 in
theorem refLine_any (n at_ del : Int) (A : Option Addr) (len cap : Nat) (w : World) (hn : I64 n) (ha : I64 at_) (hd : I64 del) (_hl : len ≤ 9223372036854775807) :
    Calls Try.prog 13 #[.int .i64 n, .agg #[.int .i64 at_, .int .i64 del, .slice A len cap]] w fun e w' =>
      e = .returned (.tuple #[.int .i64 (lineV n at_ del len).1, .bool (lineV n at_ del len).2]) ∧ Grows w w' := by
  unfold I64 at hn ha hd
  go_enter Try.func13, Try.ntmps13
  go_wp2
  all_goals
    go_ret2
    refine ⟨?_, (Grows.refl _).alloc _⟩
    unfold lineV
    repeat' split
  all_goals first | rfl | (exfalso; omega) | (rw [ref_wrap]; rfl)

theorem zero23 (w : World) : (zeroValue 23).run Try.prog w = .ok (.agg (MA zeros)) w := by kernel_rfl
theorem equal23 (w : World) (x : List Int) (h : x.length = 26) : (Op.equalIn 10000 23 (.agg (MA x)) (.agg (MA x))).run Try.prog w = .ok true w := by
  refine run_equalIn_array_same w 9999 23 3 26 (MA x) Try.underlying23 Try.sizeOf3 fun i hi => ⟨.int .i64 (x[i]'(by omega)), fun w => ⟨?_, ?_⟩⟩
  · simp [go_sem, h, hi]
  · simp [go_sem]
attribute [local go_sem ↓] zero23
attribute [local go_sem] set_MA

set_option maxHeartbeats 1000000 in
theorem shift_any (ms : List Int) (at_ del : Int) (A : Option Addr) (len cap : Nat) (w : World) (hms : ms.length = 26) (hm : ∀ n ∈ ms, I64 n) (ha : I64 at_) (hd : I64 del) (hl : len ≤ 9223372036854775807) :
    Calls Try.prog 14 #[.agg (MA ms), .agg #[.int .i64 at_, .int .i64 del, .slice A len cap]] w fun e w' =>
      e = .returned (.agg (MA (shiftV ms at_ del len))) ∧ Grows w w' := by
  go_enter Try.func14, Try.ntmps14
  go_wp2
  go_loopw [8] (fun i wr => ∃ k : Nat, k ≤ 26 ∧ i = .int .i64 k ∧ ∃ m, wr = more (((w.alloc (.cells (MA (shiftTo ms at_ del len k)) 23)).alloc (.cells #[.int .i64 at_, .int .i64 del, .slice A len cap] 27)).alloc (.cells (MA zeros) 23)) m) (fun i _ => 26 - (intOf i).toNat)
  case atStart => exact ⟨0, by omega, rfl, _, by rw [shiftTo_zero]; exact more_self _⟩
  case round =>
    obtain ⟨k, hk, rfl, m, rfl⟩ := hrel
    by_cases hlt : k < 26
    · have H3 := Lib.hid (shiftTo_set ms at_ del len k (by omega))
      have hmk : I64 (ms[k]'(by omega)) := hm _ (List.getElem_mem _)
      go_wp2_with (go_at_call 12; refine (line_any _ _ _ _ _ _ _ hmk ha hd hl).mono ?_; rintro e w' ⟨rfl, m', rfl⟩)
      exact ⟨⟨k + 1, by omega, by go_num, _, by rw [H3.out, more_more]⟩, by simp [intOf]; omega⟩
    · have hk26 : k = 26 := by omega
      subst hk26
      have h4 := Lib.hid (shiftTo_all ms at_ del len 26 (by omega))
      go_wp2
      refine bodyPost_ret (v := .agg (MA (shiftTo ms at_ del len 26))) (by simp [results, Try.results14, go_sem, hms]) rfl ⟨by rw [h4.out], ?_⟩
      exact ((((Grows.refl w).alloc _).alloc _).alloc _).more _

set_option maxHeartbeats 1000000 in
theorem refShift_any (ms : List Int) (at_ del : Int) (A : Option Addr) (len cap : Nat) (w : World) (hms : ms.length = 26) (hm : ∀ n ∈ ms, I64 n) (ha : I64 at_) (hd : I64 del) (hl : len ≤ 9223372036854775807) :
    Calls Try.prog 15 #[.agg (MA ms), .agg #[.int .i64 at_, .int .i64 del, .slice A len cap]] w fun e w' =>
      e = .returned (.agg (MA (shiftV ms at_ del len))) ∧ Grows w w' := by
  have hlen : ∀ k, (shiftOnto zeros ms at_ del len k).length = 26 := fun k => (length_shiftOnto zeros ms at_ del len k (by simp [hms])).trans hms
  go_enter Try.func15, Try.ntmps15
  go_wp2
  go_loopw [6] (fun i wr => ∃ k : Nat, k ≤ 26 ∧ i = .int .i64 k ∧ ∃ m, wr = more ((((w.alloc (.cells (MA ms) 23)).alloc (.cells #[.int .i64 at_, .int .i64 del, .slice A len cap] 27)).alloc (.cells (MA zeros) 23)).alloc (.cells (MA (shiftOnto zeros ms at_ del len k)) 23)) m) (fun i _ => 26 - (intOf i).toNat)
  case atStart => exact ⟨0, by omega, rfl, _, by rw [shiftOnto_zero]; exact more_self _⟩
  case round =>
    obtain ⟨k, hk, rfl, m, rfl⟩ := hrel
    by_cases hlt : k < 26
    · have H3 := Lib.hid (shiftOnto_set zeros ms at_ del len k (by omega) (by simp; omega))
      have hmk : I64 (ms[k]'(by omega)) := hm _ (List.getElem_mem _)
      have hk0 : (0 : Int) ≤ (k : Int) := Int.natCast_nonneg _
      have hk1 : (k : Int) < 26 := by omega
      go_wp2_with fail
      go_region_held3 (fun w' => w'.cell? ⟨w.heap.size, k, none⟩ = some (.int .i64 (ms[k]'(by omega))) ∧ w'.cell? ⟨w.heap.size + 1, 0, none⟩ = some (.int .i64 at_) ∧ w'.cell? ⟨w.heap.size + 1, 1, none⟩ = some (.int .i64 del) ∧ w'.cell? ⟨w.heap.size + 1, 2, none⟩ = some (.slice A len cap))
        (first | (simp [go_sem, hms, hlt]; done))
        (first | (go_at_call 13; refine (refLine_any _ _ _ _ _ _ _ hmk ha hd hl).mono ?_; rintro e w' ⟨rfl, m', rfl⟩))
      go_wp2
      exact ⟨⟨k + 1, by omega, by go_num, _, by rw [H3.out, more_more]⟩, by simp [intOf]; omega⟩
    · have hk26 : k = 26 := by omega
      subst hk26
      have h4 := Lib.hid (shiftOnto_all zeros ms at_ del len 26 (by omega) (by simp [hms]))
      go_wp2
      refine bodyPost_ret (v := .agg (MA (shiftOnto zeros ms at_ del len 26))) (by simp [results, Try.results15, go_sem, hlen]) rfl ⟨by rw [h4.out], ?_⟩
      exact (((((Grows.refl w).alloc _).alloc _).alloc _).alloc _).more _

end Go.Proofs.Ythmfhcnminkhaaa
