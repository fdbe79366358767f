/-
  Marks: the walks of marks.Set, Get and of the document's.
-/
import Derived.Test.YthmfhcnminkhaaaMarksWalks
namespace Go.Proofs.Ythmfhcnminkhaaa
open Go.RowKit
attribute [local go_sem ↓] zero23
attribute [local go_sem] set_MA

set_option maxHeartbeats 400000 in
theorem place_yes (j : Nat) (w : World) (hj : j < 26) :
    Calls Try.prog 19 #[.int .u8 (97 + j)] w fun e w' => e = .returned (.tuple #[.int .i64 j, .bool true]) ∧ w = w' := by
  go_enter Try.func19, Try.ntmps19
  go_wp2
  go_ret2
  exact ⟨by simp; omega, rfl⟩
set_option maxHeartbeats 400000 in
theorem place_no (c : Int) (w : World) (h0 : 0 ≤ c) (h1 : c ≤ 255) (h : c < 97 ∨ 122 < c) :
    Calls Try.prog 19 #[.int .u8 c] w fun e w' => e = .returned (.tuple #[.int .i64 (c - 97), .bool false]) ∧ w = w' := by
  rcases h with h | h
  · go_enter Try.func19, Try.ntmps19
    go_wp2
    go_ret2
    exact ⟨by simp, rfl⟩
  · go_enter Try.func19, Try.ntmps19
    go_wp2
    go_ret2
    exact ⟨by simp; omega, rfl⟩


set_option maxHeartbeats 400000 in
theorem set_no (ms : List Int) (c line n : Int) (w : World) (hms : ms.length = 26) (h0 : 0 ≤ c) (h1 : c ≤ 255) (h : c < 97 ∨ 122 < c) :
    Calls Try.prog 8 #[.agg (MA ms), .int .u8 c, .int .i64 line, .int .i64 n] w fun e w' =>
      e = .returned (.tuple #[.agg (MA zeros), .int .i64 202]) ∧ Grows w w' := by
  go_enter Try.func8, Try.ntmps8
  go_wp2_with (go_at_call 19; refine (place_no _ _ h0 h1 h).mono ?_; rintro e w' ⟨rfl, rfl⟩)
  exact bodyPost_ret (v := .tuple #[.agg (MA (zeros)), .int .i64 202]) (by simp [results, Try.results8, go_sem, hms]) rfl ⟨rfl, ((Grows.refl w).alloc _).alloc _⟩

set_option maxHeartbeats 400000 in
theorem set_addr (ms : List Int) (j : Nat) (line n : Int) (w : World) (hms : ms.length = 26) (hj : j < 26) (h : line < 1 ∨ n < line) :
    Calls Try.prog 8 #[.agg (MA ms), .int .u8 (97 + j), .int .i64 line, .int .i64 n] w fun e w' =>
      e = .returned (.tuple #[.agg (MA zeros), .int .i64 200]) ∧ Grows w w' := by
  by_cases h2 : line < 1
  · go_enter Try.func8, Try.ntmps8
    go_wp2_with (go_at_call 19; refine (place_yes _ _ hj).mono ?_; rintro e w' ⟨rfl, rfl⟩)
    exact bodyPost_ret (v := .tuple #[.agg (MA (zeros)), .int .i64 200]) (by simp [results, Try.results8, go_sem, hms]) rfl ⟨rfl, ((Grows.refl w).alloc _).alloc _⟩
  · have h3 : n < line := by omega
    clear h
    go_enter Try.func8, Try.ntmps8
    go_wp2_with (go_at_call 19; refine (place_yes _ _ hj).mono ?_; rintro e w' ⟨rfl, rfl⟩)
    exact bodyPost_ret (v := .tuple #[.agg (MA (zeros)), .int .i64 200]) (by simp [results, Try.results8, go_sem, hms]) rfl ⟨rfl, ((Grows.refl w).alloc _).alloc _⟩

set_option maxHeartbeats 400000 in
theorem set_good (ms : List Int) (j : Nat) (line n : Int) (w : World) (hms : ms.length = 26) (hj : j < 26) (h2 : 1 ≤ line) (h3 : line ≤ n) :
    Calls Try.prog 8 #[.agg (MA ms), .int .u8 (97 + j), .int .i64 line, .int .i64 n] w fun e w' =>
      e = .returned (.tuple #[.agg (MA (ms.set j line)), .int .i64 0]) ∧ Grows w w' := by
  go_enter Try.func8, Try.ntmps8
  go_wp2_with (go_at_call 19; refine (place_yes _ _ hj).mono ?_; rintro e w' ⟨rfl, rfl⟩)
  exact bodyPost_ret (v := .tuple #[.agg (MA (ms.set j line)), .int .i64 0]) (by simp [results, Try.results8, go_sem, hms]) rfl ⟨rfl, ((Grows.refl w).alloc _).alloc _⟩

theorem set_any (ms : List Int) (c line n : Int) (w : World) (hms : ms.length = 26) (h0 : 0 ≤ c) (h1 : c ≤ 255) :
    Calls Try.prog 8 #[.agg (MA ms), .int .u8 c, .int .i64 line, .int .i64 n] w fun e w' =>
      e = .returned (.tuple #[.agg (MA (setV ms c line n).1), .int .i64 (setV ms c line n).2]) ∧ Grows w w' := by
  by_cases h : c < 97 ∨ 122 < c
  · rw [setV_bad _ _ _ _ h]; exact set_no ms c line n w hms h0 h1 h
  · obtain ⟨j, rfl⟩ : ∃ j : Nat, c = 97 + j := ⟨(c - 97).toNat, by omega⟩
    have hj : j < 26 := by omega
    by_cases h2 : line < 1 ∨ n < line
    · rw [setV_addr _ _ _ _ hj h2]; exact set_addr ms j line n w hms hj h2
    · rw [setV_good _ _ _ _ hj h2]; exact set_good ms j line n w hms hj (by omega) (by omega)

set_option maxHeartbeats 400000 in
theorem refSet_no (ms : List Int) (c line n : Int) (w : World) (hms : ms.length = 26) (h0 : 0 ≤ c) (h1 : c ≤ 255) (h : c < 97 ∨ 122 < c) :
    Calls Try.prog 9 #[.agg (MA ms), .int .u8 c, .int .i64 line, .int .i64 n] w fun e w' =>
      e = .returned (.tuple #[.agg (MA zeros), .int .i64 202]) ∧ Grows w w' := by
  rcases h with h | h
  · go_enter Try.func9, Try.ntmps9
    go_wp2
    exact bodyPost_ret (v := .tuple #[.agg (MA (zeros)), .int .i64 202]) (by simp [results, Try.results9, go_sem, hms]) rfl ⟨rfl, ((Grows.refl w).alloc _).alloc _⟩
  · go_enter Try.func9, Try.ntmps9
    go_wp2
    exact bodyPost_ret (v := .tuple #[.agg (MA (zeros)), .int .i64 202]) (by simp [results, Try.results9, go_sem, hms]) rfl ⟨rfl, ((Grows.refl w).alloc _).alloc _⟩

set_option maxHeartbeats 400000 in
theorem refSet_addr (ms : List Int) (j : Nat) (line n : Int) (w : World) (hms : ms.length = 26) (hj : j < 26) (h : line < 1 ∨ n < line) :
    Calls Try.prog 9 #[.agg (MA ms), .int .u8 (97 + j), .int .i64 line, .int .i64 n] w fun e w' =>
      e = .returned (.tuple #[.agg (MA zeros), .int .i64 200]) ∧ Grows w w' := by
  by_cases h2 : line < 1
  · go_enter Try.func9, Try.ntmps9
    go_wp2
    exact bodyPost_ret (v := .tuple #[.agg (MA (zeros)), .int .i64 200]) (by simp [results, Try.results9, go_sem, hms]) rfl ⟨rfl, ((Grows.refl w).alloc _).alloc _⟩
  · have h3 : n < line := by omega
    clear h
    go_enter Try.func9, Try.ntmps9
    go_wp2
    exact bodyPost_ret (v := .tuple #[.agg (MA (zeros)), .int .i64 200]) (by simp [results, Try.results9, go_sem, hms]) rfl ⟨rfl, ((Grows.refl w).alloc _).alloc _⟩

set_option maxHeartbeats 400000 in
theorem refSet_good (ms : List Int) (j : Nat) (line n : Int) (w : World) (hms : ms.length = 26) (hj : j < 26) (h2 : 1 ≤ line) (h3 : line ≤ n) :
    Calls Try.prog 9 #[.agg (MA ms), .int .u8 (97 + j), .int .i64 line, .int .i64 n] w fun e w' =>
      e = .returned (.tuple #[.agg (MA (ms.set j line)), .int .i64 0]) ∧ Grows w w' := by
  go_enter Try.func9, Try.ntmps9
  go_wp2
  exact bodyPost_ret (v := .tuple #[.agg (MA (ms.set j line)), .int .i64 0]) (by simp [results, Try.results9, go_sem, hms]) rfl ⟨rfl, ((Grows.refl w).alloc _).alloc _⟩

theorem refSet_any (ms : List Int) (c line n : Int) (w : World) (hms : ms.length = 26) (h0 : 0 ≤ c) (h1 : c ≤ 255) :
    Calls Try.prog 9 #[.agg (MA ms), .int .u8 c, .int .i64 line, .int .i64 n] w fun e w' =>
      e = .returned (.tuple #[.agg (MA (setV ms c line n).1), .int .i64 (setV ms c line n).2]) ∧ Grows w w' := by
  by_cases h : c < 97 ∨ 122 < c
  · rw [setV_bad _ _ _ _ h]; exact refSet_no ms c line n w hms h0 h1 h
  · obtain ⟨j, rfl⟩ : ∃ j : Nat, c = 97 + j := ⟨(c - 97).toNat, by omega⟩
    have hj : j < 26 := by omega
    by_cases h2 : line < 1 ∨ n < line
    · rw [setV_addr _ _ _ _ hj h2]; exact refSet_addr ms j line n w hms hj h2
    · rw [setV_good _ _ _ _ hj h2]; exact refSet_good ms j line n w hms hj (by omega) (by omega)

set_option maxHeartbeats 400000 in
theorem get_no (ms : List Int) (c : Int) (w : World) (h0 : 0 ≤ c) (h1 : c ≤ 255) (h : c < 97 ∨ 122 < c) :
    Calls Try.prog 10 #[.agg (MA ms), .int .u8 c] w fun e w' =>
      e = .returned (.tuple #[.int .i64 0, .int .i64 202]) ∧ Grows w w' := by
  go_enter Try.func10, Try.ntmps10
  go_wp2_with (go_at_call 19; refine (place_no _ _ h0 h1 h).mono ?_; rintro e w' ⟨rfl, rfl⟩)
  go_ret2
  exact ⟨rfl, (Grows.refl w).alloc _⟩

set_option maxHeartbeats 400000 in
theorem get_none (ms : List Int) (j : Nat) (w : World) (hms : ms.length = 26) (hj : j < 26) (h : (ms[j]'(by omega)) < 1) :
    Calls Try.prog 10 #[.agg (MA ms), .int .u8 (97 + j)] w fun e w' =>
      e = .returned (.tuple #[.int .i64 0, .int .i64 202]) ∧ Grows w w' := by
  go_enter Try.func10, Try.ntmps10
  go_wp2_with (go_at_call 19; refine (place_yes _ _ hj).mono ?_; rintro e w' ⟨rfl, rfl⟩)
  go_ret2
  exact ⟨rfl, (Grows.refl w).alloc _⟩

set_option maxHeartbeats 400000 in
theorem get_good (ms : List Int) (j : Nat) (w : World) (hms : ms.length = 26) (hj : j < 26) (h : 1 ≤ (ms[j]'(by omega))) :
    Calls Try.prog 10 #[.agg (MA ms), .int .u8 (97 + j)] w fun e w' =>
      e = .returned (.tuple #[.int .i64 (ms[j]'(by omega)), .int .i64 0]) ∧ Grows w w' := by
  go_enter Try.func10, Try.ntmps10
  go_wp2_with (go_at_call 19; refine (place_yes _ _ hj).mono ?_; rintro e w' ⟨rfl, rfl⟩)
  go_ret2
  exact ⟨rfl, (Grows.refl w).alloc _⟩

theorem get_any (ms : List Int) (c : Int) (w : World) (hms : ms.length = 26) (h0 : 0 ≤ c) (h1 : c ≤ 255) :
    Calls Try.prog 10 #[.agg (MA ms), .int .u8 c] w fun e w' =>
      e = .returned (.tuple #[.int .i64 (getV ms c).1, .int .i64 (getV ms c).2]) ∧ Grows w w' := by
  by_cases h : c < 97 ∨ 122 < c
  · rw [getV_bad _ _ h]; exact get_no ms c w h0 h1 h
  · obtain ⟨j, rfl⟩ : ∃ j : Nat, c = 97 + j := ⟨(c - 97).toNat, by omega⟩
    have hj : j < 26 := by omega
    by_cases h2 : (ms[j]'(by omega)) < 1
    · rw [getV_none _ _ (by omega) h2]; exact get_none ms j w hms hj h2
    · rw [getV_good _ _ (by omega) hj h2]; exact get_good ms j w hms hj (by omega)

set_option maxHeartbeats 400000 in
theorem refGet_no (ms : List Int) (c : Int) (w : World) (h0 : 0 ≤ c) (h1 : c ≤ 255) (h : c < 97 ∨ 122 < c) :
    Calls Try.prog 11 #[.agg (MA ms), .int .u8 c] w fun e w' =>
      e = .returned (.tuple #[.int .i64 0, .int .i64 202]) ∧ Grows w w' := by
  rcases h with h | h
  · go_enter Try.func11, Try.ntmps11
    go_wp2
    go_ret2
    exact ⟨rfl, (Grows.refl w).alloc _⟩
  · go_enter Try.func11, Try.ntmps11
    go_wp2
    go_ret2
    exact ⟨rfl, (Grows.refl w).alloc _⟩

set_option maxHeartbeats 400000 in
theorem refGet_none (ms : List Int) (j : Nat) (w : World) (hms : ms.length = 26) (hj : j < 26) (h : (ms[j]'(by omega)) < 1) :
    Calls Try.prog 11 #[.agg (MA ms), .int .u8 (97 + j)] w fun e w' =>
      e = .returned (.tuple #[.int .i64 0, .int .i64 202]) ∧ Grows w w' := by
  go_enter Try.func11, Try.ntmps11
  go_wp2
  go_ret2
  exact ⟨rfl, (Grows.refl w).alloc _⟩

set_option maxHeartbeats 400000 in
theorem refGet_good (ms : List Int) (j : Nat) (w : World) (hms : ms.length = 26) (hj : j < 26) (h : 1 ≤ (ms[j]'(by omega))) :
    Calls Try.prog 11 #[.agg (MA ms), .int .u8 (97 + j)] w fun e w' =>
      e = .returned (.tuple #[.int .i64 (ms[j]'(by omega)), .int .i64 0]) ∧ Grows w w' := by
  go_enter Try.func11, Try.ntmps11
  go_wp2
  go_ret2
  exact ⟨rfl, (Grows.refl w).alloc _⟩

theorem refGet_any (ms : List Int) (c : Int) (w : World) (hms : ms.length = 26) (h0 : 0 ≤ c) (h1 : c ≤ 255) :
    Calls Try.prog 11 #[.agg (MA ms), .int .u8 c] w fun e w' =>
      e = .returned (.tuple #[.int .i64 (getV ms c).1, .int .i64 (getV ms c).2]) ∧ Grows w w' := by
  by_cases h : c < 97 ∨ 122 < c
  · rw [getV_bad _ _ h]; exact refGet_no ms c w h0 h1 h
  · obtain ⟨j, rfl⟩ : ∃ j : Nat, c = 97 + j := ⟨(c - 97).toNat, by omega⟩
    have hj : j < 26 := by omega
    by_cases h2 : (ms[j]'(by omega)) < 1
    · rw [getV_none _ _ (by omega) h2]; exact refGet_none ms j w hms hj h2
    · rw [getV_good _ _ (by omega) hj h2]; exact refGet_good ms j w hms hj (by omega)

end Go.Proofs.Ythmfhcnminkhaaa
