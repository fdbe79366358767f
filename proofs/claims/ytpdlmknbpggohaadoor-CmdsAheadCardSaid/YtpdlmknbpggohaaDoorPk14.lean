/-
  Addresses: an address's base, walked. (Printed by addrb.py.)
-/
import Derived.Test.YtpdlmknbpggohaaDoorPk13
namespace Go.Proofs.YtpdlmknbpggohaaDoor
open Go.RowKit

attribute [local go_sem] tx_bt tx_from
/-- An address's cells. -/
abbrev adrC (a : Adr) : Array Value := #[.int .i64 a.kind, .int .i64 a.n, .string (tx a.re), .int .i64 a.add]
/-- What base leaves. -/
def BasePost (s : List UInt8) (k : Nat) (r : Option (Adr × List UInt8)) (e : Ending) : Prop :=
  match r with
  | none => e = .returned (.tuple #[.agg (adrC adr0), .int .i64 0, .int .i64 200])
  | some x => ∃ j : Nat, e = .returned (.tuple #[.agg (adrC x.1), .int .i64 j, .int .i64 0]) ∧ At s j x.2 ∧ k ≤ j
set_option maxRecDepth 3000 in
theorem base_cons (c : UInt8) (l : List UInt8) : baseL (c :: l) = if c.toNat = 46 then some ({ adr0 with kind := 1 }, l)
    else if c.toNat = 36 then some ({ adr0 with kind := 2 }, l)
    else if c.toNat = 39 then
      match l with
      | [] => none
      | d :: r => if 97 ≤ d.toNat ∧ d.toNat ≤ 122 then some ({ adr0 with kind := 4, n := d.toNat - 97 }, r) else none
    else if c.toNat = 47 ∨ c.toNat = 63 then some ({ adr0 with kind := if c.toNat = 63 then 6 else 5, re := (delimL c l).1 }, (delimL c l).2.1)
    else if isDig c then (numL (c :: l)).map fun x => ({ adr0 with kind := 3, n := x.1 }, x.2)
    else some (adr0, c :: l) := rfl
set_option maxRecDepth 3000 in
theorem delimited_lit {s l : List UInt8} {k : Nat} (h : At s k l) (hl : s.length ≤ 100000) (by_ : UInt8) (w : World) (kI bI : Int) (hk : kI = (k : Int)) (hb : bI = (by_.toNat : Int)) :
    Calls Tryd.prog 49 #[.string (tx s), .int .i64 kI, .int .u8 bI] w fun e w' => DelPost s k (delimL by_ l) e ∧ Grows w w' := by
  subst hk hb
  exact delimited_any h hl by_ w
section
variable {s l r : List UInt8} {k : Nat} {c : UInt8}
set_option maxRecDepth 3000 in
theorem base_nil (h : At s k []) (hl : s.length ≤ 100000) (w : World) :
    Calls Tryd.prog 35 #[.string (tx s), .int .i64 k] w fun e w' => BasePost s k (baseL []) e ∧ Grows w w' := by
  have hk := h.nil
  have e1 : s.length ≤ k := by omega
  have H := Lib.hid h
  clear h hk
  go_enter Tryd.func35, Tryd.ntmps35
  go_wp2_with fail
  refine bodyPost_ret (v := .tuple #[.agg (adrC adr0), .int .i64 k, .int .i64 0]) (by simp [results, Tryd.results35, go_sem, adrC, adr0]; try rfl) rfl ⟨?_, by repeat' first | exact Grows.refl _ | exact Grows.refl _ | refine Grows.drewN ?_ _ | refine Grows.drew ?_ | refine Grows.alloc ?_ _⟩
  exact ⟨k, rfl, H.out, Nat.le_refl _⟩
set_option maxRecDepth 3000 in
set_option maxHeartbeats 2000000 in
theorem base_46 (h : At s k (c :: r)) (hl : s.length ≤ 100000) (w : World) (j : c.toNat = 46) :
    Calls Tryd.prog 35 #[.string (tx s), .int .i64 k] w fun e w' => BasePost s k (baseL (c :: r)) e ∧ Grows w w' := by
  have e1 : decide (s.length ≤ k) = false := by rw [decide_eq_false_iff_not]; have := h.lt; omega
  have hkl : k < s.length := h.lt
  have hb := h.bt
  obtain ⟨n, hn⟩ : ∃ n, c.toNat = n := ⟨_, rfl⟩
  rw [hn] at hb
  have hn255 : n < 256 := by rw [← hn]; exact c.toNat_lt
  obtain rfl : n = 46 := hn.symm.trans j
  have HN := Lib.hid hn
  have H := Lib.hid h
  clear h hn
  go_enter Tryd.func35, Tryd.ntmps35
  go_wp2_with fail
  refine bodyPost_ret (v := .tuple #[.agg (adrC { adr0 with kind := 1 }), .int .i64 ((k : Int) + 1), .int .i64 0]) (by simp [results, Tryd.results35, go_sem, adrC, adr0]; try rfl) rfl ⟨?_, by repeat' first | exact Grows.refl _ | exact Grows.refl _ | refine Grows.drewN ?_ _ | refine Grows.drew ?_ | refine Grows.alloc ?_ _⟩
  rw [base_cons, if_pos (by rw [HN.out])]
  exact ⟨k + 1, by simp [adr0], H.out.next, by omega⟩
set_option maxRecDepth 3000 in
set_option maxHeartbeats 2000000 in
theorem base_36 (h : At s k (c :: r)) (hl : s.length ≤ 100000) (w : World) (j : c.toNat = 36) :
    Calls Tryd.prog 35 #[.string (tx s), .int .i64 k] w fun e w' => BasePost s k (baseL (c :: r)) e ∧ Grows w w' := by
  have e1 : decide (s.length ≤ k) = false := by rw [decide_eq_false_iff_not]; have := h.lt; omega
  have hkl : k < s.length := h.lt
  have hb := h.bt
  obtain ⟨n, hn⟩ : ∃ n, c.toNat = n := ⟨_, rfl⟩
  rw [hn] at hb
  have hn255 : n < 256 := by rw [← hn]; exact c.toNat_lt
  obtain rfl : n = 36 := hn.symm.trans j
  have HN := Lib.hid hn
  have H := Lib.hid h
  clear h hn
  go_enter Tryd.func35, Tryd.ntmps35
  go_wp2_with fail
  refine bodyPost_ret (v := .tuple #[.agg (adrC { adr0 with kind := 2 }), .int .i64 ((k : Int) + 1), .int .i64 0]) (by simp [results, Tryd.results35, go_sem, adrC, adr0]; try rfl) rfl ⟨?_, by repeat' first | exact Grows.refl _ | exact Grows.refl _ | refine Grows.drewN ?_ _ | refine Grows.drew ?_ | refine Grows.alloc ?_ _⟩
  rw [base_cons, if_neg (by rw [HN.out]; decide), if_pos (by rw [HN.out])]
  exact ⟨k + 1, by simp [adr0], H.out.next, by omega⟩
set_option maxRecDepth 3000 in
set_option maxHeartbeats 2000000 in
theorem base_39 (h : At s k (c :: r)) (hl : s.length ≤ 100000) (w : World) (j : c.toNat = 39) :
    Calls Tryd.prog 35 #[.string (tx s), .int .i64 k] w fun e w' => BasePost s k (baseL (c :: r)) e ∧ Grows w w' := by
  have e1 : decide (s.length ≤ k) = false := by rw [decide_eq_false_iff_not]; have := h.lt; omega
  have hkl : k < s.length := h.lt
  have hb := h.bt
  obtain ⟨n, hn⟩ : ∃ n, c.toNat = n := ⟨_, rfl⟩
  rw [hn] at hb
  have hn255 : n < 256 := by rw [← hn]; exact c.toNat_lt
  obtain rfl : n = 39 := hn.symm.trans j
  have HN := Lib.hid hn
  have H := Lib.hid h
  clear h hn
  cases r with
  | nil =>
    have hV : baseL [c] = none := by rw [base_cons, if_neg (by rw [HN.out]; decide), if_neg (by rw [HN.out]; decide), if_pos (by rw [HN.out])]
    have HV := Lib.hid hV
    clear hV
    have e2 : s.length ≤ k + 1 := by have := H.out.next.nil; omega
    have e2i : (s.length : Int) ≤ (k : Int) + 1 := by omega
    go_enter Tryd.func35, Tryd.ntmps35
    go_wp2_with fail
    refine bodyPost_ret (v := .tuple #[.agg (adrC adr0), .int .i64 0, .int .i64 200]) (by simp [results, Tryd.results35, go_sem, adrC, adr0]; try rfl) rfl ⟨?_, by repeat' first | exact Grows.refl _ | exact Grows.refl _ | refine Grows.drewN ?_ _ | refine Grows.drew ?_ | refine Grows.alloc ?_ _⟩
    rw [HV.out]
    rfl
  | cons d r =>
    have hV : baseL (c :: d :: r) = if 97 ≤ d.toNat ∧ d.toNat ≤ 122 then some ({ adr0 with kind := 4, n := d.toNat - 97 }, r) else none := by rw [base_cons, if_neg (by rw [HN.out]; decide), if_neg (by rw [HN.out]; decide), if_pos (by rw [HN.out])]
    have HV := Lib.hid hV
    clear hV
    have e2 : decide (s.length ≤ k + 1) = false := by rw [decide_eq_false_iff_not]; have := H.out.next.lt; omega
    have e2i : decide ((s.length : Int) ≤ (k : Int) + 1) = false := by rw [decide_eq_false_iff_not]; have := H.out.next.lt; omega
    have hk1 : k + 1 < s.length := H.out.next.lt
    have hb2 := H.out.next.bt
    obtain ⟨m, hm⟩ : ∃ m, d.toNat = m := ⟨_, rfl⟩
    rw [hm] at hb2
    have HM := Lib.hid hm
    clear hm
    by_cases k1 : m < 97
    · have k1i : (m : Int) < 97 := by omega
      go_enter Tryd.func35, Tryd.ntmps35
      go_wp2_with fail
      refine bodyPost_ret (v := .tuple #[.agg (adrC adr0), .int .i64 0, .int .i64 200]) (by simp [results, Tryd.results35, go_sem, adrC, adr0]; try rfl) rfl ⟨?_, by repeat' first | exact Grows.refl _ | exact Grows.refl _ | refine Grows.drewN ?_ _ | refine Grows.drew ?_ | refine Grows.alloc ?_ _⟩
      rw [HV.out]
      rw [if_neg (by rw [HM.out]; omega)]
      rfl
    have d1 : decide (m < 97) = false := decide_eq_false k1
    by_cases k2 : 122 < m
    · have k2i : (122 : Int) < (m : Int) := by omega
      go_enter Tryd.func35, Tryd.ntmps35
      go_wp2_with fail
      refine bodyPost_ret (v := .tuple #[.agg (adrC adr0), .int .i64 0, .int .i64 200]) (by simp [results, Tryd.results35, go_sem, adrC, adr0]; try rfl) rfl ⟨?_, by repeat' first | exact Grows.refl _ | exact Grows.refl _ | refine Grows.drewN ?_ _ | refine Grows.drew ?_ | refine Grows.alloc ?_ _⟩
      rw [HV.out]
      rw [if_neg (by rw [HM.out]; omega)]
      rfl
    have d2 : decide (122 < m) = false := decide_eq_false k2
    obtain ⟨q, hq⟩ : ∃ q : Nat, m = 97 + q := ⟨m - 97, by omega⟩
    have x3 : (m : Int) - 97 = (q : Int) := by omega
    have hq25 : q ≤ 25 := by omega
    have HQ := Lib.hid hq
    clear hq k1 k2
    go_enter Tryd.func35, Tryd.ntmps35
    go_wp2_with fail
    refine bodyPost_ret (v := .tuple #[.agg (adrC { adr0 with kind := 4, n := q }), .int .i64 ((k : Int) + 2), .int .i64 0]) (by simp [results, Tryd.results35, go_sem, adrC, adr0]; try rfl) rfl ⟨?_, by repeat' first | exact Grows.refl _ | exact Grows.refl _ | refine Grows.drewN ?_ _ | refine Grows.drew ?_ | refine Grows.alloc ?_ _⟩
    rw [HV.out]
    rw [if_pos (by rw [HM.out, HQ.out]; omega)]
    exact ⟨k + 2, by rw [HM.out, HQ.out]; simp [adr0], H.out.next.next, by omega⟩
set_option maxRecDepth 3000 in
set_option maxHeartbeats 2000000 in
theorem base_47 (h : At s k (c :: r)) (hl : s.length ≤ 100000) (w : World) (j : c.toNat = 47) :
    Calls Tryd.prog 35 #[.string (tx s), .int .i64 k] w fun e w' => BasePost s k (baseL (c :: r)) e ∧ Grows w w' := by
  have e1 : decide (s.length ≤ k) = false := by rw [decide_eq_false_iff_not]; have := h.lt; omega
  have hkl : k < s.length := h.lt
  have hb := h.bt
  obtain ⟨n, hn⟩ : ∃ n, c.toNat = n := ⟨_, rfl⟩
  rw [hn] at hb
  have hn255 : n < 256 := by rw [← hn]; exact c.toNat_lt
  obtain rfl : n = 47 := hn.symm.trans j
  have HN := Lib.hid hn
  have H := Lib.hid h
  clear h hn
  have hV : baseL (c :: r) = some ({ adr0 with kind := 5, re := (delimL c r).1 }, (delimL c r).2.1) := by
    rw [base_cons, if_neg (by rw [HN.out]; decide), if_neg (by rw [HN.out]; decide), if_neg (by rw [HN.out]; decide), if_pos (by rw [HN.out]; decide), HN.out]
    rfl
  have HV := Lib.hid hV
  have hbq : (47 : Int) = (c.toNat : Int) := by rw [HN.out]; rfl
  have HB := Lib.hid hbq
  clear hV hbq
  go_enter Tryd.func35, Tryd.ntmps35
  go_wp2_with fail
  (with_reducible refine (delimited_lit H.out.next hl c _ _ _ (by simp) HB.out).mono ?_)
  rintro e w1 ⟨⟨j2, rfl, hA2, hk2⟩, m1, rfl⟩
  have HA2 := Lib.hid hA2
  clear hA2
  go_wp2_with fail
  refine bodyPost_ret (v := .tuple #[.agg (adrC { adr0 with kind := 5, re := (delimL c r).1 }), .int .i64 j2, .int .i64 0]) (by simp [results, Tryd.results35, go_sem, adrC, adr0]; try rfl) rfl ⟨?_, by repeat' first | exact Grows.refl _ | exact (⟨m1, rfl⟩ : Grows _ _) | refine Grows.drewN ?_ _ | refine Grows.drew ?_ | refine Grows.more ?_ _ | refine Grows.alloc ?_ _⟩
  rw [HV.out]
  exact ⟨j2, rfl, HA2.out, by omega⟩
set_option maxRecDepth 3000 in
set_option maxHeartbeats 2000000 in
theorem base_63 (h : At s k (c :: r)) (hl : s.length ≤ 100000) (w : World) (j : c.toNat = 63) :
    Calls Tryd.prog 35 #[.string (tx s), .int .i64 k] w fun e w' => BasePost s k (baseL (c :: r)) e ∧ Grows w w' := by
  have e1 : decide (s.length ≤ k) = false := by rw [decide_eq_false_iff_not]; have := h.lt; omega
  have hkl : k < s.length := h.lt
  have hb := h.bt
  obtain ⟨n, hn⟩ : ∃ n, c.toNat = n := ⟨_, rfl⟩
  rw [hn] at hb
  have hn255 : n < 256 := by rw [← hn]; exact c.toNat_lt
  obtain rfl : n = 63 := hn.symm.trans j
  have HN := Lib.hid hn
  have H := Lib.hid h
  clear h hn
  have hV : baseL (c :: r) = some ({ adr0 with kind := 6, re := (delimL c r).1 }, (delimL c r).2.1) := by
    rw [base_cons, if_neg (by rw [HN.out]; decide), if_neg (by rw [HN.out]; decide), if_neg (by rw [HN.out]; decide), if_pos (by rw [HN.out]; decide), HN.out]
    rfl
  have HV := Lib.hid hV
  have hbq : (63 : Int) = (c.toNat : Int) := by rw [HN.out]; rfl
  have HB := Lib.hid hbq
  clear hV hbq
  go_enter Tryd.func35, Tryd.ntmps35
  go_wp2_with fail
  (with_reducible refine (delimited_lit H.out.next hl c _ _ _ (by simp) HB.out).mono ?_)
  rintro e w1 ⟨⟨j2, rfl, hA2, hk2⟩, m1, rfl⟩
  have HA2 := Lib.hid hA2
  clear hA2
  go_wp2_with fail
  refine bodyPost_ret (v := .tuple #[.agg (adrC { adr0 with kind := 6, re := (delimL c r).1 }), .int .i64 j2, .int .i64 0]) (by simp [results, Tryd.results35, go_sem, adrC, adr0]; try rfl) rfl ⟨?_, by repeat' first | exact Grows.refl _ | exact (⟨m1, rfl⟩ : Grows _ _) | refine Grows.drewN ?_ _ | refine Grows.drew ?_ | refine Grows.more ?_ _ | refine Grows.alloc ?_ _⟩
  rw [HV.out]
  exact ⟨j2, rfl, HA2.out, by omega⟩
set_option maxRecDepth 3000 in
set_option maxHeartbeats 2000000 in
theorem base_dig (h : At s k (c :: r)) (hl : s.length ≤ 100000) (w : World) (j1 : ¬ c.toNat = 46) (j2 : ¬ c.toNat = 36) (j3 : ¬ c.toNat = 39) (j4 : ¬ (c.toNat = 47 ∨ c.toNat = 63)) (j5 : isDig c = true) :
    Calls Tryd.prog 35 #[.string (tx s), .int .i64 k] w fun e w' => BasePost s k (baseL (c :: r)) e ∧ Grows w w' := by
  have e1 : decide (s.length ≤ k) = false := by rw [decide_eq_false_iff_not]; have := h.lt; omega
  have hkl : k < s.length := h.lt
  have hb := h.bt
  obtain ⟨n, hn⟩ : ∃ n, c.toNat = n := ⟨_, rfl⟩
  rw [hn] at hb
  have hn255 : n < 256 := by rw [← hn]; exact c.toNat_lt
  have j1' : ¬ n = 46 := by rw [← hn]; exact j1
  have j2' : ¬ n = 36 := by rw [← hn]; exact j2
  have j3' : ¬ n = 39 := by rw [← hn]; exact j3
  have j4' : ¬ (n = 47 ∨ n = 63) := by rw [← hn]; exact j4
  have e46 : ((n : Int) == 46) = false := by rw [beq_eq_false_iff_ne]; omega
  have e36 : ((n : Int) == 36) = false := by rw [beq_eq_false_iff_ne]; omega
  have e39 : ((n : Int) == 39) = false := by rw [beq_eq_false_iff_ne]; omega
  have e47 : ((n : Int) == 47) = false := by rw [beq_eq_false_iff_ne]; omega
  have e63 : ((n : Int) == 63) = false := by rw [beq_eq_false_iff_ne]; omega
  have HN := Lib.hid hn
  have H := Lib.hid h
  clear h hn
  have hV : baseL (c :: r) = (numL (c :: r)).map fun x => ({ adr0 with kind := 3, n := x.1 }, x.2) := by
    rw [base_cons, if_neg j1, if_neg j2, if_neg j3, if_neg j4, if_pos j5]
  have HV := Lib.hid hV
  have hdg : digH (c :: r) = true := j5
  have HD := Lib.hid hdg
  clear hV hdg j1 j2 j3 j4 j5
  go_enter Tryd.func35, Tryd.ntmps35
  go_wp2_with fail
  (with_reducible refine (digit_any H.out hl _).mono ?_)
  rw [HD.out]
  rintro e w1 ⟨rfl, hw⟩
  have hw := hw.symm
  subst hw
  go_wp2_with fail
  (with_reducible refine (number_any H.out hl _).mono ?_)
  rintro e w1 ⟨hp, hw⟩
  have hw := hw.symm
  subst hw
  unfold NumPost at hp
  cases hnum : numL (c :: r) with
  | none =>
    rw [hnum] at hp
    subst hp
    have HNM := Lib.hid hnum
    clear hnum
    go_wp2_with fail
    refine bodyPost_ret (v := .tuple #[.agg (adrC adr0), .int .i64 0, .int .i64 200]) (by simp [results, Tryd.results35, go_sem, adrC, adr0]; try rfl) rfl ⟨?_, by repeat' first | exact Grows.refl _ | exact Grows.refl _ | refine Grows.drewN ?_ _ | refine Grows.drew ?_ | refine Grows.alloc ?_ _⟩
    rw [HV.out, HNM.out]
    rfl
  | some x =>
    rw [hnum] at hp
    obtain ⟨j2, rfl, hA2, hk2, -⟩ := hp
    have HNM := Lib.hid hnum
    have HA2 := Lib.hid hA2
    clear hnum hA2
    go_wp2_with fail
    refine bodyPost_ret (v := .tuple #[.agg (adrC { adr0 with kind := 3, n := x.1 }), .int .i64 j2, .int .i64 0]) (by simp [results, Tryd.results35, go_sem, adrC, adr0]; try rfl) rfl ⟨?_, by repeat' first | exact Grows.refl _ | exact Grows.refl _ | refine Grows.drewN ?_ _ | refine Grows.drew ?_ | refine Grows.alloc ?_ _⟩
    rw [HV.out, HNM.out]
    exact ⟨j2, rfl, HA2.out, by omega⟩
set_option maxRecDepth 3000 in
set_option maxHeartbeats 2000000 in
theorem base_else (h : At s k (c :: r)) (hl : s.length ≤ 100000) (w : World) (j1 : ¬ c.toNat = 46) (j2 : ¬ c.toNat = 36) (j3 : ¬ c.toNat = 39) (j4 : ¬ (c.toNat = 47 ∨ c.toNat = 63)) (j5 : isDig c = false) :
    Calls Tryd.prog 35 #[.string (tx s), .int .i64 k] w fun e w' => BasePost s k (baseL (c :: r)) e ∧ Grows w w' := by
  have e1 : decide (s.length ≤ k) = false := by rw [decide_eq_false_iff_not]; have := h.lt; omega
  have hkl : k < s.length := h.lt
  have hb := h.bt
  obtain ⟨n, hn⟩ : ∃ n, c.toNat = n := ⟨_, rfl⟩
  rw [hn] at hb
  have hn255 : n < 256 := by rw [← hn]; exact c.toNat_lt
  have j1' : ¬ n = 46 := by rw [← hn]; exact j1
  have j2' : ¬ n = 36 := by rw [← hn]; exact j2
  have j3' : ¬ n = 39 := by rw [← hn]; exact j3
  have j4' : ¬ (n = 47 ∨ n = 63) := by rw [← hn]; exact j4
  have e46 : ((n : Int) == 46) = false := by rw [beq_eq_false_iff_ne]; omega
  have e36 : ((n : Int) == 36) = false := by rw [beq_eq_false_iff_ne]; omega
  have e39 : ((n : Int) == 39) = false := by rw [beq_eq_false_iff_ne]; omega
  have e47 : ((n : Int) == 47) = false := by rw [beq_eq_false_iff_ne]; omega
  have e63 : ((n : Int) == 63) = false := by rw [beq_eq_false_iff_ne]; omega
  have HN := Lib.hid hn
  have H := Lib.hid h
  clear h hn
  have hV : baseL (c :: r) = some (adr0, c :: r) := by
    rw [base_cons, if_neg j1, if_neg j2, if_neg j3, if_neg j4, if_neg (by rw [j5]; decide)]
  have HV := Lib.hid hV
  have hdg : digH (c :: r) = false := j5
  have HD := Lib.hid hdg
  clear hV hdg j1 j2 j3 j4 j5
  go_enter Tryd.func35, Tryd.ntmps35
  go_wp2_with fail
  (with_reducible refine (digit_any H.out hl _).mono ?_)
  rw [HD.out]
  rintro e w1 ⟨rfl, hw⟩
  have hw := hw.symm
  subst hw
  go_wp2_with fail
  refine bodyPost_ret (v := .tuple #[.agg (adrC adr0), .int .i64 k, .int .i64 0]) (by simp [results, Tryd.results35, go_sem, adrC, adr0]; try rfl) rfl ⟨?_, by repeat' first | exact Grows.refl _ | exact Grows.refl _ | refine Grows.drewN ?_ _ | refine Grows.drew ?_ | refine Grows.alloc ?_ _⟩
  rw [HV.out]
  exact ⟨k, rfl, H.out, Nat.le_refl _⟩
end
set_option maxRecDepth 3000 in
theorem base_any {s l : List UInt8} {k : Nat} (h : At s k l) (hl : s.length ≤ 100000) (w : World) :
    Calls Tryd.prog 35 #[.string (tx s), .int .i64 k] w fun e w' => BasePost s k (baseL l) e ∧ Grows w w' := by
  cases l with
  | nil => exact base_nil h hl w
  | cons c r =>
    by_cases j1 : c.toNat = 46
    · exact base_46 h hl w j1
    by_cases j2 : c.toNat = 36
    · exact base_36 h hl w j2
    by_cases j3 : c.toNat = 39
    · exact base_39 h hl w j3
    by_cases j4 : c.toNat = 47
    · exact base_47 h hl w j4
    by_cases j5 : c.toNat = 63
    · exact base_63 h hl w j5
    cases j6 : isDig c with
    | true => exact base_dig h hl w j1 j2 j3 (fun h => h.elim j4 j5) j6
    | false => exact base_else h hl w j1 j2 j3 (fun h => h.elim j4 j5) j6
end Go.Proofs.YtpdlmknbpggohaaDoor
