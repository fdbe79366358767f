/-
  Chapter 16's law: Beyond and lives.
-/
import Derived.Test.YthmfhcnminkhaaaMarksCheck
namespace Go.Proofs.Ythmfhcnminkhaaa
open Go.RowKit
attribute [local go_sem ↓] zero23
attribute [local go_sem] set_MA

/-- A splice in memory. -/
structure Spl where
  at_ : Int
  del : Int
  A : Option Addr
  len : Nat
  cap : Nat
/-- Its three cells. -/
def Spl.cells (s : Spl) : List Value := [.int .i64 s.at_, .int .i64 s.del, .slice s.A s.len s.cap]
theorem cells_at (L : List Spl) (k : Nat) (hk : k < L.length) : (L.flatMap Spl.cells)[k * 3]? = some (.int .i64 L[k].at_) ∧ (L.flatMap Spl.cells)[k * 3 + 1]? = some (.int .i64 L[k].del) ∧
    (L.flatMap Spl.cells)[k * 3 + 2]? = some (.slice L[k].A L[k].len L[k].cap) := by
  induction L generalizing k with
  | nil => simp at hk
  | cons s L ih =>
    cases k with
    | zero => simp [Spl.cells]
    | succ k =>
      have := ih k (by simpa using hk)
      simp only [List.flatMap_cons, List.getElem_cons_succ]
      have e : s.cells.length = 3 := rfl
      rw [List.getElem?_append_right (by rw [e]; omega), List.getElem?_append_right (by rw [e]; omega), List.getElem?_append_right (by rw [e]; omega), e]
      have e1 : (k + 1) * 3 - 3 = k * 3 := by omega
      have e2 : (k + 1) * 3 + 1 - 3 = k * 3 + 1 := by omega
      have e3 : (k + 1) * 3 + 2 - 3 = k * 3 + 2 := by omega
      rw [e1, e2, e3]
      exact this
theorem length_cells (L : List Spl) : (L.flatMap Spl.cells).length = L.length * 3 := by
  induction L with
  | nil => rfl
  | cons s L ih => simp [List.flatMap_cons, ih, Spl.cells]; omega

/-- Are they more than is looked at? -/
def beyondV (L : List Spl) (many : Int) : Bool := decide (many < L.length) || L.any fun s => decide (100 < s.len)
theorem beyondV_many (L : List Spl) (many : Int) (h : many < L.length) : beyondV L many = true := by simp [beyondV, h]
theorem beyondV_long (L : List Spl) (many : Int) (k : Nat) (hk : k < L.length) (h : 100 < L[k].len) : beyondV L many = true := by
  simp only [beyondV, Bool.or_eq_true, List.any_eq_true, decide_eq_true_eq]
  exact .inr ⟨_, List.getElem_mem hk, h⟩
theorem beyondV_not (L : List Spl) (many : Int) (h : ¬ many < L.length) (h2 : ∀ j (hj : j < L.length), L[j].len ≤ 100) : beyondV L many = false := by
  simp only [beyondV, Bool.or_eq_false_iff, decide_eq_false_iff_not, List.any_eq_false, decide_eq_true_eq]
  refine ⟨h, fun x hx => ?_⟩
  obtain ⟨j, hj, rfl⟩ := List.getElem_of_mem hx
  have := h2 j hj
  omega

set_option maxHeartbeats 400000 in
theorem beyond_any (L : List Spl) (A : Option Addr) (cap : Nat) (many : Int) (w : World) (hL : Rd w 3 A L.length (L.flatMap Spl.cells)) (hlen : L.length ≤ 9223372036854775807) (hl : ∀ s ∈ L, s.len ≤ 9223372036854775807) :
    Calls Try.prog 6 #[.slice A L.length cap, .int .i64 many] w fun e w' => e = .returned (.bool (beyondV L many)) ∧ w = w' := by
  by_cases h0 : many < L.length
  · have H := Lib.hid (beyondV_many L many h0)
    go_enter Try.func6, Try.ntmps6
    go_wp2
    go_ret
    exact ⟨by rw [H.out]; rfl, rfl⟩
  · go_enter Try.func6, Try.ntmps6
    go_wp2
    go_loop [5] (fun i => ∃ k : Nat, k ≤ L.length ∧ i = .int .i64 k ∧ ∀ j (hj : j < k) (hk : j < L.length), L[j].len ≤ 100) (fun i => L.length - (intOf i).toNat)
    case atStart => exact ⟨0, by omega, rfl, fun j hj => absurd hj (by omega)⟩
    case round =>
      obtain ⟨k, hk, rfl, hall⟩ := hrel
      have HA := Lib.hid hall
      clear hall
      by_cases hlt : k < L.length
      · obtain ⟨b, o, rfl, hb, hc⟩ := hL.2 (by omega)
        have hc2 := hc _ _ (cells_at L k hlt).2.2
        rw [← Nat.add_assoc] at hc2
        have hlk := hl _ (List.getElem_mem hlt)
        have HC := Lib.hid hc
        clear hc
        by_cases h1 : 100 < L[k].len
        · have H := Lib.hid (beyondV_long L many k hlt h1)
          go_wp2
          go_ret
          exact ⟨by rw [H.out]; rfl, rfl⟩
        · go_wp2
          refine ⟨⟨k + 1, by omega, by go_num, fun j hj hk' => ?_⟩, by simp [intOf]; omega⟩
          by_cases e : j = k
          · subst e; omega
          · exact HA.out j (by omega) hk'
      · have H := Lib.hid (beyondV_not L many (by omega) fun j hj => HA.out j (by omega) hj)
        go_wp2
        go_ret
        exact ⟨by rw [H.out]; rfl, rfl⟩

/-- The marks of the chapter's example. -/
def ms3 : List Int := zeros.set 0 3
theorem lv_set1 : setV zeros 97 3 5 = (ms3, 0) := by decide +kernel
theorem lv_set2 : setV ms3 97 3 2 = (zeros, 200) := by decide +kernel
theorem lv_set3 : setV ms3 65 3 5 = (zeros, 202) := by decide +kernel
theorem lv_get1 : getV ms3 97 = (3, 0) := by decide +kernel
theorem lv_get2 : getV ms3 98 = (0, 202) := by decide +kernel
theorem lv_check1 : checkV ms3 3 = true := by decide +kernel
theorem lv_check2 : checkV ms3 2 = false := by decide +kernel
theorem lv_line1 : lineV 5 2 1 3 = (7, true) := by decide +kernel
theorem lv_line2 : lineV 3 2 1 3 = (0, false) := by decide +kernel
theorem lv_line3 : lineV 2 2 1 3 = (2, true) := by decide +kernel
@[simp, go_sem] theorem length_ms3 : ms3.length = 26 := by simp [ms3]
theorem build23 (w : World) : (Instr.build 23 #[]).run Try.prog w = .ok (.agg (MA zeros)) w := by kernel_rfl
attribute [local go_sem ↓] build23
attribute [local go_sem] lv_set1 lv_set2 lv_set3 lv_get1 lv_get2 lv_check1 lv_check2 lv_line1 lv_line2 lv_line3

set_option maxHeartbeats 2000000 in
set_option maxRecDepth 100000 in
theorem lives_any (w : World) : Calls Try.prog 7 #[] w fun e w' => e = .returned (.bool true) ∧ Grows w w' := by
  go_enter Try.func7, Try.ntmps7
  go_wp2_with fail
  (with_reducible refine (line_any 5 2 1 _ 3 _ _ (i64 (by decide) (by decide)) (i64 (by decide) (by decide)) (i64 (by decide) (by decide)) (by decide)).mono ?_); rintro e w' ⟨rfl, m', rfl⟩
  go_wp2_with fail
  (with_reducible refine (line_any 3 2 1 _ 3 _ _ (i64 (by decide) (by decide)) (i64 (by decide) (by decide)) (i64 (by decide) (by decide)) (by decide)).mono ?_); rintro e w' ⟨rfl, m', rfl⟩
  go_wp2_with fail
  (with_reducible refine (line_any 2 2 1 _ 3 _ _ (i64 (by decide) (by decide)) (i64 (by decide) (by decide)) (i64 (by decide) (by decide)) (by decide)).mono ?_); rintro e w' ⟨rfl, m', rfl⟩
  go_wp2_with fail
  (with_reducible refine (set_any zeros 97 3 5 _ (by simp) (by decide) (by decide)).mono ?_); rintro e w' ⟨rfl, m', rfl⟩
  go_wp2_with fail
  (with_reducible refine (set_any ms3 97 3 2 _ (by simp) (by decide) (by decide)).mono ?_); rintro e w' ⟨rfl, m', rfl⟩
  go_wp2_with fail
  (with_reducible refine (set_any ms3 65 3 5 _ (by simp) (by decide) (by decide)).mono ?_); rintro e w' ⟨rfl, m', rfl⟩
  go_wp2_with fail
  (with_reducible refine (get_any ms3 97 _ (by simp) (by decide) (by decide)).mono ?_); rintro e w' ⟨rfl, m', rfl⟩
  go_wp2_with fail
  (with_reducible refine (get_any ms3 98 _ (by simp) (by decide) (by decide)).mono ?_); rintro e w' ⟨rfl, m', rfl⟩
  go_wp2_with fail
  (with_reducible refine (check_any ms3 3 _ (by simp)).mono ?_); rintro e w' ⟨rfl, m', rfl⟩
  go_wp2_with fail
  (with_reducible refine (check_any ms3 2 _ (by simp)).mono ?_); rintro e w' ⟨rfl, m', rfl⟩
  go_wp2_with fail
  go_ret
  exact ⟨rfl, by repeat' first | exact Grows.refl _ | refine Grows.more ?_ _ | refine Grows.alloc ?_ _⟩

end Go.Proofs.Ythmfhcnminkhaaa
