/-
  Classes: the law ClassesAround.
-/
import Derived.Test.YtcfkniejpeakdaaClsNot
import Derived.Test.YtcfkniejpeakdaaClsSwap
namespace Go.Proofs.Ytcfkniejpeakdaa
open Go.RowKit

attribute [local go_sem] tx_bt SA_getElem
attribute [local go_sem ↓] zero22
attribute [local go_sem] equal22
theorem parseV_around {s : List UInt8} {x : (Nat → Bool) × Nat} (h : parseV s = some x) : 3 ≤ x.2 ∧ x.2 ≤ s.length ∧ bt s (x.2 - 1) = 93 ∧ ∀ b, parseV (s.take x.2 ++ b) = some x := by
  have key : ∀ (hd : Nat) (nt : Bool), 1 ≤ hd → hd ≤ 2 → hd ≤ s.length → s.head? = some 91 → (∀ t : List UInt8, t.head? = some 91 → ((t.drop 1).head? = (s.drop 1).head?) → parseV t = (loopF true (fun _ => false) (t.drop hd)).map fun x => (fun c => x.1 c != nt, t.length - x.2.length + 1)) →
      parseV s = some x → 3 ≤ x.2 ∧ x.2 ≤ s.length ∧ bt s (x.2 - 1) = 93 ∧ ∀ b, parseV (s.take x.2 ++ b) = some x := by
    intro hd nt h1 h2 hsl hh hP hs
    rw [hP s hh rfl, Option.map_eq_some_iff] at hs
    obtain ⟨y, hy, rfl⟩ := hs
    obtain ⟨u, v, e1, e2, e3⟩ := loopF_split hy
    have e3 := e3 rfl
    have hl : s.length = hd + (u.length + (v.length + 1)) := by
      have := congrArg List.length e1
      rw [List.length_drop, List.length_append, List.length_cons] at this
      omega
    have hy2 : y.2.length = v.length + 1 := by rw [e2, List.length_cons]
    have hk : s.length - y.2.length + 1 = hd + u.length + 1 := by omega
    have hsp : s = s.take hd ++ (u ++ 93 :: v) := by rw [← e1, List.take_append_drop]
    have htl : (s.take hd).length = hd := by simp; omega
    have htk : s.take (hd + u.length + 1) = s.take hd ++ (u ++ [93]) := by
      conv => lhs; rw [hsp]
      rw [show s.take hd ++ (u ++ 93 :: v) = (s.take hd ++ (u ++ [93])) ++ v by simp]
      rw [List.take_append_of_le_length (by simp [htl]; omega), List.take_of_length_le (by simp [htl]; omega)]
    simp only [hk]
    refine ⟨by omega, by omega, ?_, fun b => ?_⟩
    · rw [show hd + u.length + 1 - 1 = hd + u.length by omega, ← bt_drop, e1]
      exact bt_end u v
    · have ht : s.take (hd + u.length + 1) ++ b = s.take hd ++ (u ++ 93 :: b) := by rw [htk]; simp
      rw [ht]
      have hdr : (s.take hd ++ (u ++ 93 :: b)).drop hd = u ++ 93 :: b := by
        rw [List.drop_left' htl]
      have hhd : (s.take hd ++ (u ++ 93 :: b)).head? = some 91 := by
        cases s with
        | nil => simp at hh
        | cons a s =>
          cases hd with
          | zero => omega
          | succ hd => simpa using hh
      have hd1 : ((s.take hd ++ (u ++ 93 :: b)).drop 1).head? = (s.drop 1).head? := by
        conv => rhs; rw [hsp]
        cases u with
        | nil => simp at e3
        | cons c u =>
          cases s with
          | nil => simp at hh
          | cons a s =>
            rcases (show hd = 1 ∨ hd = 2 by omega) with rfl | rfl
            · simp
            · cases s with
              | nil => simp at hsl
              | cons a2 s => simp
      rw [hP _ hhd hd1, hdr]
      rw [e1] at hy
      have hy' : loopF true (fun _ => false) (u ++ 93 :: v) = some (y.1, 93 :: v) := by rw [hy, ← e2]
      rw [loopF_swap u.length u (Nat.le_refl _) true _ y.1 v b hy']
      simp only [Option.map_some, Option.some.injEq, Prod.mk.injEq, true_and, List.length_append, htl, List.length_cons]
      omega
  have hpl := h
  unfold parseV at hpl
  split at hpl
  · rename_i hh
    have hne : 1 ≤ s.length := by cases s <;> simp at hh ⊢
    by_cases h3 : (s.drop 1).head? = some 94
    · have hl2 : 2 ≤ s.length := by
        cases s with
        | nil => simp at hh
        | cons a s =>
          cases s with
          | nil => simp at h3
          | cons b s => simp
      exact key 2 true (by omega) (by omega) hl2 hh (fun t ht1 ht2 => by unfold parseV; rw [if_pos ht1, if_pos (ht2.trans h3)]) h
    · exact key 1 false (by omega) (by omega) hne hh (fun t ht1 ht2 => by unfold parseV; rw [if_pos ht1, if_neg (by rw [ht2]; exact h3)]) h
  · cases hpl
theorem around_facts (s a b : List UInt8) : ((parseA s 0) = (fun _ => false, 0, 90)) ∨ ∃ (p : Nat → Bool) (k : Nat), parseA s 0 = (p, (k : Int), 0) ∧ 3 ≤ k ∧ k ≤ s.length ∧ bt s (k - 1) = 93 ∧ parseA (a ++ (s.take k ++ b)) a.length = (p, (a.length : Int) + k, 0) := by
  rw [parseA_zero]
  cases hP : parseV s with
  | none => exact .inl rfl
  | some x =>
    obtain ⟨h1, h2, h3, h4⟩ := parseV_around hP
    refine .inr ⟨x.1, x.2, rfl, h1, h2, h3, ?_⟩
    rw [parseA_in (by simp; omega), List.drop_left' rfl, h4 b]
set_option maxRecDepth 100000 in
set_option maxHeartbeats 4000000 in
theorem classesAround_law (s a b : List UInt8) (w : World) (hs : Sane w) : Calls Try.prog 5 #[.string (tx s), .string (tx a), .string (tx b)] w fun e w' => e = .returned (.bool true) ∧ Grows w w' := by
  have HS := Lib.hid hs
  have i0 : I64 0 := ⟨by omega, by omega⟩
  clear hs
  go_enter Try.func5, Try.ntmps5
  by_cases h1 : 300 < s.length
  · have c1 : (300 : Int) < (s.length : Int) := by omega
    go_wp2_with fail
    go_ret
    exact ⟨rfl, (by repeat' first | exact Grows.refl _ | refine Grows.more ?_ _ | refine Grows.alloc ?_ _ | refine Grows.drewN ?_ _ | refine Grows.drew ?_)⟩
  have c1 : ¬(300 : Int) < (s.length : Int) := by omega
  by_cases h2 : 300 < a.length
  · have c2 : (300 : Int) < (a.length : Int) := by omega
    go_wp2_with fail
    go_ret
    exact ⟨rfl, (by repeat' first | exact Grows.refl _ | refine Grows.more ?_ _ | refine Grows.alloc ?_ _ | refine Grows.drewN ?_ _ | refine Grows.drew ?_)⟩
  have c2 : ¬(300 : Int) < (a.length : Int) := by omega
  by_cases h3 : 300 < b.length
  · have c3 : (300 : Int) < (b.length : Int) := by omega
    go_wp2_with fail
    go_ret
    exact ⟨rfl, (by repeat' first | exact Grows.refl _ | refine Grows.more ?_ _ | refine Grows.alloc ?_ _ | refine Grows.drewN ?_ _ | refine Grows.drew ?_)⟩
  have c3 : ¬(300 : Int) < (b.length : Int) := by omega
  go_wp2_with fail
  (with_reducible refine (parse_any s 0 _ (by omega) HS.out i0).mono ?_)
  rintro e w1 ⟨rfl, m1, rfl⟩
  rcases around_facts s a b with hA | ⟨p, k, hA, k1, k2, k3, hB⟩
  · rw [hA]
    go_wp2_with fail
    (with_reducible refine (does_any _ (HS.out.grows (by repeat' first | exact Grows.refl _ | refine Grows.more ?_ _ | refine Grows.alloc ?_ _ | refine Grows.drewN ?_ _ | refine Grows.drew ?_))).mono ?_)
    rintro e w3 ⟨rfl, m3, rfl⟩
    go_wp2_with fail
    go_ret
    exact ⟨rfl, (by repeat' first | exact Grows.refl _ | refine Grows.more ?_ _ | refine Grows.alloc ?_ _ | refine Grows.drewN ?_ _ | refine Grows.drew ?_)⟩
  · rw [hA]
    have d1 : ¬(k : Int) < 3 := by omega
    have d2 : ¬(s.length : Int) < (k : Int) := by omega
    have d3 : ((k : Int) - 1).toNat = k - 1 := by omega
    have d4 : ((bt s (k - 1) : Int) != 93) = false := by simp; omega
    have d5 : (0 : Int) ≤ (k : Int) - 1 := by omega
    have d6 : (k : Int) - 1 < (s.length : Int) := by omega
    have d7 : k - 1 < s.length := by omega
    have hx : (tx s).extract 0 k = tx (s.take k) := by rw [tx_mid]; simp
    have hxl : (s.take k).length = k := by simp; omega
    have ht1 : tx a ++ tx (s.take k) = tx (a ++ s.take k) := tx_append _ _
    have ht2 : tx (a ++ s.take k) ++ tx b = tx (a ++ (s.take k ++ b)) := by rw [tx_append, List.append_assoc]
    have hal : I64 (a.length : Int) := ⟨by omega, by omega⟩
    have hol : (a ++ (s.take k ++ b)).length ≤ 1000000 := by simp; omega
    have hol2 : (a ++ s.take k).length ≤ 1000 := by simp; omega
    have HB := Lib.hid hB
    clear hB hA
    go_wp2_with fail
    (with_reducible refine (parse_any _ _ _ hol (HS.out.grows (by repeat' first | exact Grows.refl _ | refine Grows.more ?_ _ | refine Grows.alloc ?_ _ | refine Grows.drewN ?_ _ | refine Grows.drew ?_)) hal).mono ?_)
    rw [HB.out]
    rintro e w2 ⟨rfl, m2, rfl⟩
    go_wp2_with fail
    (with_reducible refine (does_any _ (HS.out.grows (by repeat' first | exact Grows.refl _ | refine Grows.more ?_ _ | refine Grows.alloc ?_ _ | refine Grows.drewN ?_ _ | refine Grows.drew ?_))).mono ?_)
    rintro e w3 ⟨rfl, m3, rfl⟩
    go_wp2_with fail
    go_ret
    exact ⟨rfl, (by repeat' first | exact Grows.refl _ | refine Grows.more ?_ _ | refine Grows.alloc ?_ _ | refine Grows.drewN ?_ _ | refine Grows.drew ?_)⟩
end Go.Proofs.Ytcfkniejpeakdaa
