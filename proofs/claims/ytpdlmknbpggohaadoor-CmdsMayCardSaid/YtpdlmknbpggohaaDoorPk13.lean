/-
  Addresses: blanks, a digit, a number, walked.
-/
import Derived.Test.YtpdlmknbpggohaaDoorPk11
import Derived.Test.YtpdlmknbpggohaaDoorPk01
import Derived.Deep.LoopGhost
namespace Go.Proofs.YtpdlmknbpggohaaDoor
open Go.RowKit

attribute [local go_sem] tx_bt tx_from
/-- A place of a text, and what stands there. -/
structure At (s : List UInt8) (k : Nat) (l : List UInt8) : Prop where
  le : k ≤ s.length
  eq : s.drop k = l
section
variable {s l r : List UInt8} {k : Nat} {c : UInt8}
set_option maxRecDepth 3000 in
theorem At.len (h : At s k l) : l.length = s.length - k := by rw [← h.eq, List.length_drop]
set_option maxRecDepth 3000 in
theorem At.lt (h : At s k (c :: r)) : k < s.length := by have := h.len; simp at this; omega
set_option maxRecDepth 3000 in
theorem At.bt (h : At s k (c :: r)) : bt s k = c.toNat := by rw [show k = k + 0 by omega, ← bt_drop, h.eq]; simp
set_option maxRecDepth 3000 in
theorem At.next (h : At s k (c :: r)) : At s (k + 1) r := ⟨h.lt, by rw [← List.drop_drop, h.eq]; rfl⟩
set_option maxRecDepth 3000 in
theorem At.nil (h : At s k []) : k = s.length := by have := h.len; have := h.le; simp at *; omega
set_option maxRecDepth 3000 in
theorem At.start (s : List UInt8) : At s 0 s := ⟨Nat.zero_le _, rfl⟩
set_option maxRecDepth 3000 in
theorem At.end_ (s : List UInt8) : At s s.length [] := ⟨Nat.le_refl _, List.drop_length⟩
set_option maxRecDepth 3000 in
/-- A suffix stands somewhere. -/
theorem At.suffix (h : At s k l) {t : List UInt8} (ht : t <:+ l) : ∃ j, At s j t ∧ k ≤ j := by
  obtain ⟨e, hl⟩ := suffix_drop ht
  have h1 := h.len
  have h2 := h.le
  exact ⟨k + (l.length - t.length), ⟨by omega, by rw [← List.drop_drop, h.eq]; exact e.symm⟩, by omega⟩
end
set_option maxRecDepth 3000 in
set_option maxHeartbeats 1000000 in
theorem blanks_any {s l : List UInt8} {k : Nat} (h : At s k l) (hl : s.length ≤ 100000) (w : World) :
    Calls Tryd.prog 19 #[.string (tx s), .int .i64 k] w fun e w' => (∃ j : Nat, e = .returned (.int .i64 j) ∧ At s j (skipL l) ∧ k ≤ j) ∧ w' = w := by
  have H := Lib.hid h
  clear h
  go_enter Tryd.func19, Tryd.ntmps19
  go_wp2_with fail
  go_loopg [1] l.length (fun q v1 wr => ∃ (j : Nat) (t : List UInt8), q = t.length ∧ v1 = .int .i64 j ∧ At s j t ∧ skipL t = skipL l ∧ k ≤ j ∧ wr = w)
  case atStart => exact ⟨k, l, rfl, rfl, H.out, rfl, Nat.le_refl _, rfl⟩
  case round =>
    obtain ⟨j, t, hq, rfl, hA, hs, hkj, rfl⟩ := hrel
    have HQ := Lib.hid hq
    have HA := Lib.hid hA
    have HS := Lib.hid hs
    have hjl := hA.le
    clear hq hs H
    cases t with
    | nil =>
      have e1 : decide (j < s.length) = false := by rw [decide_eq_false_iff_not]; have := hA.nil; omega
      clear hA
      go_wp2_with fail
      go_ret
      exact ⟨⟨j, rfl, by rw [← HS.out]; exact HA.out, hkj⟩, rfl⟩
    | cons c r =>
      have e1 : j < s.length := hA.lt
      have hb := hA.bt
      obtain ⟨n, hn⟩ : ∃ n, c.toNat = n := ⟨_, rfl⟩
      rw [hn] at hb
      have HN := Lib.hid hn
      clear hA hn
      by_cases k1 : n = 32
      · have hbl : isBl c = true := by unfold isBl; rw [HN.out, k1]; rfl
        have e32 : ((n : Int) == 32) = true := by rw [k1]; rfl
        have HB := Lib.hid hbl
        clear hbl k1
        go_wp2_with fail
        go_roundg (gk - 1)
        case measure => have := HQ.out; simp at this; omega
        case rel => exact ⟨j + 1, r, by have := HQ.out; simp at this; omega, rfl, HA.out.next, by rw [← HS.out]; unfold skipL; rw [List.dropWhile_cons, if_pos HB.out], by omega, rfl⟩
      have e32 : ((n : Int) == 32) = false := by rw [beq_eq_false_iff_ne]; omega
      by_cases k2 : n = 9
      · have hbl : isBl c = true := by unfold isBl; rw [HN.out, k2]; rfl
        have e9 : ((n : Int) == 9) = true := by rw [k2]; rfl
        have HB := Lib.hid hbl
        clear hbl k1 k2
        go_wp2_with fail
        go_roundg (gk - 1)
        case measure => have := HQ.out; simp at this; omega
        case rel => exact ⟨j + 1, r, by have := HQ.out; simp at this; omega, rfl, HA.out.next, by rw [← HS.out]; unfold skipL; rw [List.dropWhile_cons, if_pos HB.out], by omega, rfl⟩
      · have hbl : isBl c = false := by unfold isBl; rw [HN.out]; simp; omega
        have e9 : ((n : Int) == 9) = false := by rw [beq_eq_false_iff_ne]; omega
        have HB := Lib.hid hbl
        clear hbl k1 k2
        go_wp2_with fail
        go_ret
        exact ⟨⟨j, rfl, by rw [← HS.out]; unfold skipL; rw [List.dropWhile_cons, if_neg (by rw [HB.out]; decide)]; exact HA.out, hkj⟩, rfl⟩
/-- Does a digit stand there? -/
def digH : List UInt8 → Bool
  | [] => false
  | c :: _ => isDig c
set_option maxRecDepth 3000 in
set_option maxHeartbeats 1000000 in
theorem digit_any {s l : List UInt8} {k : Nat} (h : At s k l) (hl : s.length ≤ 100000) (w : World) :
    Calls Tryd.prog 36 #[.string (tx s), .int .i64 k] w fun e w' => e = .returned (.bool (digH l)) ∧ w' = w := by
  have hkl := h.le
  cases l with
  | nil =>
    have e1 : decide (k < s.length) = false := by rw [decide_eq_false_iff_not]; have := h.nil; omega
    clear h
    go_enter Tryd.func36, Tryd.ntmps36
    go_wp2_with fail
    go_ret
    exact ⟨rfl, rfl⟩
  | cons c r =>
    have e1 : k < s.length := h.lt
    have hb := h.bt
    obtain ⟨n, hn⟩ : ∃ n, c.toNat = n := ⟨_, rfl⟩
    rw [hn] at hb
    have hd : digH (c :: r) = decide (48 ≤ n ∧ n ≤ 57) := by rw [← hn]; rfl
    rw [hd]
    clear h hn hd
    by_cases k1 : 48 ≤ n
    · by_cases k2 : n ≤ 57
      · rw [show decide (48 ≤ n ∧ n ≤ 57) = true from decide_eq_true ⟨k1, k2⟩]
        go_enter Tryd.func36, Tryd.ntmps36
        go_wp2_with fail
        go_ret
        exact ⟨by simp; omega, rfl⟩
      · rw [show decide (48 ≤ n ∧ n ≤ 57) = false from decide_eq_false fun h => k2 h.2]
        have d2 : decide (n ≤ 57) = false := decide_eq_false k2
        go_enter Tryd.func36, Tryd.ntmps36
        go_wp2_with fail
        go_ret
        exact ⟨by simp; try omega, rfl⟩
    · rw [show decide (48 ≤ n ∧ n ≤ 57) = false from decide_eq_false fun h => k1 h.1]
      have d2 : decide (48 ≤ n) = false := decide_eq_false k1
      go_enter Tryd.func36, Tryd.ntmps36
      go_wp2_with fail
      go_ret
      exact ⟨by simp; try omega, rfl⟩
set_option maxRecDepth 3000 in
theorem valD_app (a : List UInt8) (c : UInt8) : valD (a ++ [c]) = 10 * valD a + (c.toNat - 48) := by unfold valD; rw [List.foldl_append]; rfl
set_option maxRecDepth 3000 in
theorem valD_rev : ∀ (m : Nat) (a : List UInt8), a.length ≤ m → (∀ c, c ∈ a → isDig c = true) → valD a < 10 ^ a.length := by
  intro m
  induction m with
  | zero => intro a h _; have : a = [] := List.length_eq_zero_iff.1 (by omega); subst this; decide
  | succ m ih =>
    intro a h hd
    rcases List.eq_nil_or_concat a with rfl | ⟨b, c, rfl⟩
    · decide
    · rw [List.concat_eq_append] at h hd ⊢
      rw [valD_app, List.length_append]
      have h1 := ih b (by simp at h; omega) fun c hc => hd c (List.mem_append_left _ hc)
      have h2 := hd c (by simp)
      unfold isDig at h2
      simp at h2
      simp only [List.length_cons, List.length_nil, Nat.zero_add, Nat.pow_succ]
      omega
set_option maxRecDepth 3000 in
theorem valD_nine {a : List UInt8} (h : a.length ≤ 9) (hd : ∀ c, c ∈ a → isDig c = true) : valD a < 1000000000 :=
  Nat.lt_of_lt_of_le (valD_rev _ a (Nat.le_refl _) hd) (Nat.le_trans (Nat.pow_le_pow_right (by decide) h) (by decide))
set_option maxRecDepth 3000 in
theorem take_dig {a t : List UInt8} (hd : ∀ c, c ∈ a → isDig c = true) (ht : digH t = false) : (a ++ t).takeWhile isDig = a ∧ (a ++ t).dropWhile isDig = t := by
  have h1 : (a ++ t).takeWhile isDig = a := by
    rw [List.takeWhile_append_of_pos hd]
    cases t with
    | nil => simp
    | cons c r => rw [List.takeWhile_cons, if_neg (by rw [show isDig c = false from ht]; decide)]; simp
  refine ⟨h1, ?_⟩
  have := List.takeWhile_append_dropWhile (p := isDig) (l := a ++ t)
  rw [h1] at this
  exact List.append_cancel_left this
set_option maxRecDepth 3000 in
theorem num_many {a r : List UInt8} {c : UInt8} (hd : ∀ c, c ∈ a → isDig c = true) (hc : isDig c = true) (h9 : 9 ≤ a.length) : numL (a ++ c :: r) = none := by
  unfold numL
  rw [if_pos]
  rw [List.takeWhile_append_of_pos hd, List.takeWhile_cons, if_pos hc, List.length_append, List.length_cons]
  omega
/-- What number leaves. -/
def NumPost (s : List UInt8) (k : Nat) (l : List UInt8) (e : Ending) : Prop :=
  match numL l with
  | none => e = .returned (.tuple #[.int .i64 0, .int .i64 0, .bool false])
  | some x => ∃ j : Nat, e = .returned (.tuple #[.int .i64 x.1, .int .i64 j, .bool true]) ∧ At s j x.2 ∧ k ≤ j ∧ x.1 < 1000000000
set_option maxRecDepth 3000 in
set_option maxHeartbeats 2000000 in
theorem number_any {s l : List UInt8} {k : Nat} (h : At s k l) (hl : s.length ≤ 100000) (w : World) :
    Calls Tryd.prog 37 #[.string (tx s), .int .i64 k] w fun e w' => NumPost s k l e ∧ w' = w := by
  have H := Lib.hid h
  have hkl := h.le
  clear h
  go_enter Tryd.func37, Tryd.ntmps37
  go_wp2_with fail
  go_loopg [4, 5] l.length (fun q v4 v5 wr => ∃ (a t : List UInt8), q = t.length ∧ l = a ++ t ∧ (∀ c, c ∈ a → isDig c = true) ∧ a.length ≤ 9 ∧ v4 = .int .i64 (valD a : Nat) ∧ v5 = .int .i64 ((k + a.length : Nat) : Int) ∧ At s (k + a.length) t ∧ wr = w)
  case atStart => exact ⟨[], l, rfl, rfl, (fun c hc => by cases hc), Nat.zero_le _, rfl, rfl, H.out, rfl⟩
  case round =>
    obtain ⟨a, t, hq, hlt, hd, h9, rfl, rfl, hA, rfl⟩ := hrel
    have hv := valD_nine h9 hd
    have HQ := Lib.hid hq
    have HLT := Lib.hid hlt
    have HD := Lib.hid hd
    have HA := Lib.hid hA
    have hjl := hA.le
    obtain ⟨V, hV⟩ : ∃ V, valD a = V := ⟨_, rfl⟩
    obtain ⟨J, hJ⟩ : ∃ J, k + a.length = J := ⟨_, rfl⟩
    rw [hV] at hv ⊢
    rw [hJ] at hjl ⊢
    have hA2 : At s J t := hJ ▸ hA
    have HA2 := Lib.hid hA2
    have HV := Lib.hid hV
    have HJ := Lib.hid hJ
    clear hq hlt hd hA hV hJ hA2 H HA
    cases hdg : digH t with
    | false =>
      have hnum : numL l = some (V, t) := by
        obtain ⟨e1, e2⟩ := take_dig HD.out hdg
        unfold numL
        rw [HLT.out, e1, e2, if_neg (by omega), HV.out]
      go_wp2_with fail
      (with_reducible refine (digit_any HA2.out hl _).mono ?_)
      rw [hdg]
      rintro e w1 ⟨rfl, hw⟩
      subst hw
      have HN := Lib.hid hnum
      clear hnum hdg
      go_wp2_with fail
      refine bodyPost_ret (v := .tuple #[.int .i64 V, .int .i64 J, .bool true]) (by simp [results, Tryd.results37, go_sem]) rfl ⟨?_, rfl⟩
      unfold NumPost
      rw [HN.out]
      exact ⟨J, rfl, HA2.out, by have := HJ.out; omega, hv⟩
    | true =>
      cases t with
      | nil => cases hdg
      | cons c r =>
        have hc : isDig c = true := hdg
        have hb := HA2.out.bt
        have hlt := HA2.out.lt
        obtain ⟨B, hB⟩ : ∃ B : Nat, c.toNat = 48 + B := ⟨c.toNat - 48, by unfold isDig at hc; simp at hc; omega⟩
        have hB9 : B ≤ 9 := by unfold isDig at hc; simp at hc; omega
        have HC := Lib.hid hc
        have HB := Lib.hid hB
        have x3 : (bt s J : Int) - 48 = (B : Int) := by rw [hb, hB]; omega
        have hlti : (J : Int) < (s.length : Int) := by omega
        have HDG := Lib.hid hdg
        clear hc hB hdg hb
        go_wp2_with fail
        (with_reducible refine (digit_any HA2.out hl _).mono ?_)
        rw [HDG.out]
        rintro e w1 ⟨rfl, hw⟩
        subst hw
        have hjk : (J : Int) - (k : Int) = (a.length : Int) := by have := HJ.out; omega
        by_cases hn9 : a.length = 9
        · have hnum : numL l = none := by rw [HLT.out]; exact num_many HD.out HC.out (by omega)
          have e9 : (9 : Int) ≤ (a.length : Int) := by omega
          have e9n : 9 ≤ a.length := by omega
          have HN := Lib.hid hnum
          clear hnum hn9
          go_wp2_with fail
          refine bodyPost_ret (v := .tuple #[.int .i64 0, .int .i64 0, .bool false]) (by simp [results, Tryd.results37, go_sem]) rfl ⟨?_, rfl⟩
          unfold NumPost
          rw [HN.out]
        · have e9 : decide ((9 : Int) ≤ (a.length : Int)) = false := by rw [decide_eq_false_iff_not]; omega
          have e9n : decide (9 ≤ a.length) = false := by rw [decide_eq_false_iff_not]; omega
          have HN9 := Lib.hid hn9
          clear hn9
          go_wp2_with fail
          go_roundg (gk - 1)
          case measure => have := HQ.out; simp at this; omega
          case rel => exact ⟨a ++ [c], r, by have := HQ.out; simp at this; omega, by rw [HLT.out]; simp, fun d hdm => by
              rw [List.mem_append, List.mem_singleton] at hdm
              rcases hdm with hdm | rfl
              · exact HD.out d hdm
              · exact HC.out, by have := HN9.out; simp; omega, by rw [valD_app, HV.out, HB.out]; simp, by rw [List.length_append]; have := HJ.out; simp; omega, by rw [List.length_append, ← Nat.add_assoc, HJ.out]; exact HA2.out.next, rfl⟩
end Go.Proofs.YtpdlmknbpggohaaDoor
