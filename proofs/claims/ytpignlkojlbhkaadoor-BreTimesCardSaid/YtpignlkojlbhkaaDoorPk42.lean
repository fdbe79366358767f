/-
  Several texts of the proof: BreDigits, BreTimesP.
-/
import Derived.Test.YtpignlkojlbhkaaDoorPk40
import Derived.Test.YtpignlkojlbhkaaDoorPk41
/-
  The patterns' laws: a number's digits.
-/
namespace Go.Proofs.YtpignlkojlbhkaaDoor
open Go.RowKit

set_option maxRecDepth 3000 in
theorem run_conv9 (l : List UInt8) (w : World) (g n cap : Nat) (hn : n = l.length) (hc : ∀ j (hj : j < l.length), w.cell? ⟨g, j, none⟩ = some (.int .u8 (l[j].toNat : Int))) :
    (convert 72 9 (.slice (some ⟨g, 0, none⟩) n cap)).run Tryd.prog w = .ok (.string (tx l)) w := by
  subst hn
  have := run_convert_bytes_back (P := Tryd.prog) w 72 9 5 ⟨g, 0, none⟩ cap l Tryd.underlying72 Tryd.underlying5 Tryd.underlying9
  exact this (fun j hj => by rw [show (⟨g, 0, none⟩ : Addr).add j = ⟨g, j, none⟩ by unfold Addr.add; split <;> simp_all]; exact hc j hj)
def dig8 (n : Nat) : UInt8 := UInt8.ofNat (48 + n % 10)
set_option maxRecDepth 3000 in
theorem dig8_nat (n : Nat) : (dig8 n).toNat = 48 + n % 10 := by
  unfold dig8
  rw [UInt8.toNat_ofNat']
  omega
/-- The digits of a number ahead of a text; of none for 0. -/
def digL : Nat → List UInt8 → List UInt8
  | 0, s => s
  | n + 1, s => digL ((n + 1) / 10) (dig8 (n + 1) :: s)
termination_by n => n
decreasing_by omega
def digitsV (n : Nat) : List UInt8 := digL (n / 10) [dig8 n]
set_option maxRecDepth 3000 in
theorem conv_dig (n : Nat) (W : World) : (convert 72 9 (.slice (some ⟨W.heap.size, 0, none⟩) 1 1)).run Tryd.prog (W.alloc (.cells #[.int .u8 (48 + (n : Int) % 10)] 5)) = .ok (.string (tx [dig8 n])) (W.alloc (.cells #[.int .u8 (48 + (n : Int) % 10)] 5)) := by
  have h8 : ((dig8 n).toNat : Int) = 48 + (n : Int) % 10 := by rw [dig8_nat]; omega
  rw [← h8]
  exact run_conv9 [dig8 n] _ _ _ _ rfl (fun j hj => by
        have : j = 0 := by simp at hj; omega
        subst this
        simp [go_sem])
set_option maxRecDepth 3000 in
theorem digL_pos (n : Nat) (s : List UInt8) (h : 0 < n) : digL n s = digL (n / 10) (dig8 n :: s) := by
  cases n with
  | zero => omega
  | succ n => rw [digL]
set_option maxRecDepth 3000 in
theorem digL_zero (s : List UInt8) : digL 0 s = s := by rw [digL]
set_option maxRecDepth 3000 in
theorem digits_any (n : Nat) (w : World) (hn : n < 100000) : Calls Tryd.prog 20 #[.int .i64 n] w fun e w' => e = .returned (.string (tx (digitsV n))) ∧ Grows w w' := by
  have hc := conv_dig n w
  obtain ⟨R, hR⟩ : ∃ R, digitsV n = R := ⟨_, rfl⟩
  rw [hR]
  have HR := Lib.hid hR
  clear hR
  have hd : (n : Int) / 10 = ((n / 10 : Nat) : Int) := by omega
  have HD := Lib.hid hd
  clear hd
  go_enter Tryd.func20, Tryd.ntmps20
  go_wp2_with fail
  go_loopg [0, 3] (n / 10) (fun q v0 v3 wr => ∃ (k : Nat) (s : List UInt8), q = k ∧ k < 100000 ∧ v0 = .int .i64 k ∧ v3 = .string (tx s) ∧ digL k s = R ∧ s.length + k ≤ 100001 ∧ Grows w wr)
  case atStart => exact ⟨n / 10, _, rfl, by omega, by first | rfl | rw [HD.out], rfl, HR.out, by simp; omega, (Grows.refl w).alloc _⟩
  case round =>
    obtain ⟨k, s, rfl, hk, rfl, rfl, hr, hsl, hg⟩ := hrel
    clear hc
    rcases Nat.eq_zero_or_pos gk with h0 | h0
    · subst h0
      rw [digL_zero] at hr
      subst hr
      go_wp2_with fail
      go_ret
      exact ⟨rfl, hg⟩
    · rw [digL_pos _ _ h0] at hr
      have HR := Lib.hid hr
      clear hr
      have hc := conv_dig gk wr
      have hcat : tx [dig8 gk] ++ tx s = tx (dig8 gk :: s) := tx_append _ _
      have hd2 : (gk : Int) / 10 = ((gk / 10 : Nat) : Int) := by omega
      have HD2 := Lib.hid hd2
      clear hd2
      have hll : s.length ≤ 100001 := by omega
      go_wp2_with fail
      go_roundg (gk / 10)
      case measure => omega
      case rel => exact ⟨gk / 10, _, rfl, by omega, by rw [HD2.out], rfl, HR.out, by simp; omega, hg.alloc _⟩
end Go.Proofs.YtpignlkojlbhkaaDoor

/-
  Patterns: one byte and an interval behind it, in plain words.
-/
namespace Go.Proofs.YtpignlkojlbhkaaDoor
open Go.RowKit

set_option maxRecDepth 3000 in
theorem digitsV_small (n : Nat) : (n < 10 → digitsV n = [dig8 n]) ∧ (10 ≤ n → n < 100 → digitsV n = [dig8 (n / 10), dig8 n]) ∧ (100 ≤ n → n < 1000 → digitsV n = [dig8 (n / 10 / 10), dig8 (n / 10), dig8 n]) := by
  refine ⟨fun h => ?_, fun h k => ?_, fun h k => ?_⟩
  · unfold digitsV
    rw [show n / 10 = 0 by omega, digL_zero]
  · unfold digitsV
    rw [digL_pos _ _ (by omega), show n / 10 / 10 = 0 by omega, digL_zero]
  · unfold digitsV
    rw [digL_pos _ _ (by omega), digL_pos _ _ (by omega), show n / 10 / 10 / 10 = 0 by omega, digL_zero]
set_option maxRecDepth 3000 in
theorem isDig8 (n : Nat) : isDig (dig8 n) = true := by
  unfold isDig
  rw [dig8_nat]
  simp
  omega
set_option maxRecDepth 3000 in
theorem digitsV_dig (n : Nat) (hn : n < 1000) : ∀ c ∈ digitsV n, isDig c = true := by
  obtain ⟨h1, h2, h3⟩ := digitsV_small n
  intro c hc
  rcases Nat.lt_or_ge n 10 with h | h
  · rw [h1 h] at hc; simp at hc; rw [hc, isDig8]
  · rcases Nat.lt_or_ge n 100 with k | k
    · rw [h2 h k] at hc; simp at hc; rcases hc with rfl | rfl <;> exact isDig8 _
    · rw [h3 k hn] at hc; simp at hc; rcases hc with rfl | rfl | rfl <;> exact isDig8 _
set_option maxRecDepth 3000 in
theorem digitsV_ne (n : Nat) (hn : n < 1000) : (digitsV n).isEmpty = false := by
  obtain ⟨h1, h2, h3⟩ := digitsV_small n
  rcases Nat.lt_or_ge n 10 with h | h
  · rw [h1 h]; rfl
  · rcases Nat.lt_or_ge n 100 with k | k
    · rw [h2 h k]; rfl
    · rw [h3 k hn]; rfl
set_option maxRecDepth 3000 in
theorem digitsV_len (n : Nat) (hn : n < 1000) : (digitsV n).length ≤ 3 := by
  obtain ⟨h1, h2, h3⟩ := digitsV_small n
  rcases Nat.lt_or_ge n 10 with h | h
  · rw [h1 h]; simp
  · rcases Nat.lt_or_ge n 100 with k | k
    · rw [h2 h k]; simp
    · rw [h3 k hn]; simp
set_option maxRecDepth 3000 in
theorem numV_digits (n : Nat) (hn : n < 1000) : numV (digitsV n) = min n 256 := by
  obtain ⟨h1, h2, h3⟩ := digitsV_small n
  rcases Nat.lt_or_ge n 10 with h | h
  · rw [h1 h]; simp only [numV, List.foldl, dig8_nat]; omega
  · rcases Nat.lt_or_ge n 100 with k | k
    · rw [h2 h k]; simp only [numV, List.foldl, dig8_nat]; omega
    · rw [h3 k hn]; simp only [numV, List.foldl, dig8_nat]; omega
set_option maxRecDepth 3000 in
theorem takeWhile_all {p : UInt8 → Bool} : ∀ (l : List UInt8) (c : UInt8) (r : List UInt8), (∀ x ∈ l, p x = true) → p c = false → (l ++ c :: r).takeWhile p = l ∧ (l ++ c :: r).dropWhile p = c :: r
  | [], c, r, _, hc => by simp [hc]
  | x :: l, c, r, h, hc => by
    have hx := h x (by simp)
    have := takeWhile_all l c r (fun y hy => h y (by simp [hy])) hc
    simp [hx, this.1, this.2]
set_option maxRecDepth 3000 in
theorem number_digits (n : Nat) (hn : n < 1000) (c : UInt8) (r : List UInt8) (hc : isDig c = false) : numberV (digitsV n ++ c :: r) = (min n 256, true, c :: r) := by
  obtain ⟨h1, h2⟩ := takeWhile_all (p := isDig) (digitsV n) c r (digitsV_dig n hn) hc
  unfold numberV
  rw [h1, h2, numV_digits n hn, digitsV_ne n hn]
  rfl
set_option maxRecDepth 3000 in
theorem bounds_alone (a : Nat) (ha : a < 1000) : boundsV (digitsV a ++ [92, 125]) = if a ≤ 255 then some (a, (a : Int), []) else none := by
  have h1 : numberV (digitsV a ++ [92, 125]) = (min a 256, true, [92, 125]) := number_digits a ha 92 [125] rfl
  unfold boundsV
  simp only [h1]
  have h2 : mostV (min a 256) [92, 125] = (((min a 256 : Nat) : Int), [92, 125]) := by
    unfold mostV
    rw [show ahead [44] [92, 125] = false from rfl]
    rfl
  simp only [h2]
  have h3 : ahead [92, 125] [92, 125] = true := rfl
  by_cases h : a ≤ 255
  · rw [if_pos h, if_pos ⟨by trivial, h3, by omega, by omega, .inr (by omega)⟩]
    simp [show min a 256 = a by omega]
  · rw [if_neg h, if_neg (fun k => by have := k.2.2.1; omega)]
set_option maxRecDepth 3000 in
theorem bounds_from (a : Nat) (ha : a < 1000) : boundsV (digitsV a ++ [44, 92, 125]) = if a ≤ 255 then some (a, -1, []) else none := by
  have h1 : numberV (digitsV a ++ [44, 92, 125]) = (min a 256, true, [44, 92, 125]) := number_digits a ha 44 [92, 125] rfl
  unfold boundsV
  simp only [h1]
  have h2 : mostV (min a 256) [44, 92, 125] = (-1, [92, 125]) := by
    unfold mostV
    rw [show ahead [44] [44, 92, 125] = true from rfl]
    rfl
  simp only [h2]
  have h3 : ahead [92, 125] [92, 125] = true := rfl
  by_cases h : a ≤ 255
  · rw [if_pos h, if_pos ⟨by trivial, h3, by omega, by omega, .inl (by omega)⟩]
    simp [show min a 256 = a by omega]
  · rw [if_neg h, if_neg (fun k => by have := k.2.2.1; omega)]
set_option maxRecDepth 3000 in
theorem bounds_both (a b : Nat) (ha : a < 1000) (hb : b < 1000) : boundsV (digitsV a ++ 44 :: (digitsV b ++ [92, 125])) = if a ≤ 255 ∧ b ≤ 255 ∧ a ≤ b then some (a, (b : Int), []) else none := by
  have h1 : numberV (digitsV a ++ 44 :: (digitsV b ++ [92, 125])) = (min a 256, true, 44 :: (digitsV b ++ [92, 125])) := number_digits a ha 44 _ rfl
  have h1b : numberV (digitsV b ++ [92, 125]) = (min b 256, true, [92, 125]) := number_digits b hb 92 [125] rfl
  unfold boundsV
  simp only [h1]
  have h2 : mostV (min a 256) (44 :: (digitsV b ++ [92, 125])) = (((min b 256 : Nat) : Int), [92, 125]) := by
    unfold mostV
    rw [ahead_cons, ahead_nil]
    simp only [List.drop_succ_cons, List.drop_zero, h1b]
    rfl
  simp only [h2]
  have h3 : ahead [92, 125] [92, 125] = true := rfl
  by_cases h : a ≤ 255 ∧ b ≤ 255 ∧ a ≤ b
  · rw [if_pos h, if_pos ⟨by trivial, h3, by omega, by omega, .inr (by omega)⟩]
    simp [show min a 256 = a by omega, show min b 256 = b by omega]
  · rw [if_neg h, if_neg (fun k => by have := k.2.2.1; have := k.2.2.2.1; have := k.2.2.2.2; omega)]
set_option maxRecDepth 3000 in
theorem part_97 (tail : List UInt8) : partF true false (ps0 (97 :: tail)) = some ((byteN 97, .nil), ⟨tail, 1, 0, false, []⟩) := by
  unfold ps0
  rw [part_plain (by simp [PlainB])]
  rfl
set_option maxRecDepth 3000 in
theorem pat_times_none {tail : List UInt8} (h : boundsV tail = none) : patV (97 :: 92 :: 123 :: tail) = none := by
  unfold patV
  rw [rowF_eq, show stopV (ps0 (97 :: 92 :: 123 :: tail)).left = false by simp [ps0, stopV, ahead_cons], part_97]
  simp only [Bool.false_eq_true, if_false, Option.bind_some]
  rw [show more1 (byteN 97, Fr.nil) (⟨92 :: 123 :: tail, 1, 0, false, []⟩ : PS) = timesF (byteN 97, Fr.nil) ⟨92 :: 123 :: tail, 1, 0, false, []⟩ from rfl, timesF_eq]
  simp only [ahead_cons, ahead_nil]
  simp [h]
set_option maxRecDepth 3000 in
theorem pat_times_some {tail : List UInt8} {m : Nat} {n : Int} (h : boundsV tail = some (m, n, [])) :
    patV (97 :: 92 :: 123 :: tail) = some (.cons (timesN m n) (Fr.one (byteN 97) .nil) .nil, ⟨[], 2, 0, false, []⟩) := by
  unfold patV
  rw [rowF_eq, show stopV (ps0 (97 :: 92 :: 123 :: tail)).left = false by simp [ps0, stopV, ahead_cons], part_97]
  simp only [Bool.false_eq_true, if_false, Option.bind_some]
  have e : timesF (byteN 97, Fr.nil) ⟨92 :: 123 :: tail, 1, 0, false, []⟩ = some ((timesN m n, Fr.one (byteN 97) .nil), ⟨[], 2, 0, false, []⟩) := by
    rw [timesF_eq]
    simp only [ahead_cons, ahead_nil]
    simp [h, node1]
    rw [timesF_eq]
    simp [ahead_empty]
  rw [show more1 (byteN 97, Fr.nil) (⟨92 :: 123 :: tail, 1, 0, false, []⟩ : PS) = timesF (byteN 97, Fr.nil) ⟨92 :: 123 :: tail, 1, 0, false, []⟩ from rfl, e]
  simp only [Option.bind_some]
  rw [row_end]
  rfl
end Go.Proofs.YtpignlkojlbhkaaDoor
