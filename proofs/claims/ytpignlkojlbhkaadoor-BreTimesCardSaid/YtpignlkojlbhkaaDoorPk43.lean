/-
  The law BreTimes, walked.
-/
import Derived.Test.YtpignlkojlbhkaaDoorPk42
namespace Go.Proofs.YtpignlkojlbhkaaDoor
open Go.RowKit

set_option maxRecDepth 3000 in
theorem times_yes {tail : List UInt8} {m : Nat} {n : Int} (h : boundsV tail = some (m, n, [])) : ∃ y, patV (97 :: 92 :: 123 :: tail) = some y ∧ y.1 = .cons (timesN m n) (Fr.one (byteN 97) .nil) .nil := ⟨_, pat_times_some h, rfl⟩

set_option maxRecDepth 3000 in
set_option maxHeartbeats 1000000 in
theorem times_alone (a b f : Nat) (ha : a ≤ 65535) (hb : b ≤ 65535) (hf : f ≤ 255) (hm : f % 3 = 0) (w : World) (hs : Sane w) : Calls Tryd.prog 8 #[.int .u16 a, .int .u16 b, .int .u8 f] w fun e w' => e = .returned (.bool true) ∧ Grows w w' := by
  obtain ⟨A, hA⟩ : ∃ A : Nat, a % 400 = A := ⟨_, rfl⟩
  obtain ⟨B, hB⟩ : ∃ B : Nat, b % 400 = B := ⟨_, rfl⟩
  have eA : (a : Int) % 400 = (A : Int) := by omega
  have eB : (b : Int) % 400 = (B : Int) := by omega
  have eF : (f : Int) % 3 = 0 := by omega
  have bA : A < 400 := by omega
  have bB : B < 400 := by omega
  clear hA hB hm
  have hdA := digits_any A w (by omega)
  have hlA := digitsV_len A (by omega)
  have hbd := bounds_alone A (by omega)
  generalize hDA : digitsV A = DA at *
  clear hDA
  obtain ⟨T1, hT1⟩ : ∃ T, 97 :: 92 :: 123 :: DA = T := ⟨_, rfl⟩
  have c1 : (⟨#[97, 92, 123]⟩ : ByteArray) ++ tx DA = tx T1 := hT1 ▸ tx_append [97, 92, 123] DA
  have l1 : T1.length ≤ 6 := by rw [← hT1]; simp; omega
  obtain ⟨T9, hT9⟩ : ∃ T, 97 :: 92 :: 123 :: (DA ++ [92, 125]) = T := ⟨_, rfl⟩
  have c9 : tx T1 ++ (⟨#[92, 125]⟩ : ByteArray) = tx T9 := by rw [show (⟨#[92, 125]⟩ : ByteArray) = tx [92, 125] from rfl, tx_append, ← hT1, ← hT9]; rfl
  have l9 : T9.length ≤ 1000000 := by rw [← hT9]; simp; omega
  by_cases hw : A ≤ 255
  · rw [if_pos hw] at hbd
    obtain ⟨y, hy, hy1⟩ := times_yes hbd
    rw [hT9] at hy
    have HY := Lib.hid hy
    clear hy hbd hT1 hT9
    have v1 : (A : Int) ≤ 255 := by omega
    go_enter Tryd.func8, Tryd.ntmps8
    go_wp2_with fail
    (with_reducible refine hdA.mono ?_)
    rintro e w1 ⟨rfl, k1⟩
    go_wp2_with fail
    (with_reducible refine (bre_yes l9 HY.out w1 (hs.grows (k1)) _ rfl).mono ?_)
    rintro e w3 ⟨g, rfl, R, -, k3⟩
    go_wp2_with fail
    (with_reducible refine (tree_any R (by rw [(patV_size HY.out).1]; have := (patV_size HY.out).2; omega)).mono ?_)
    rintro e w4 ⟨C, cap, rfl, hC, k4⟩
    have hlen : y.1.len = 1 := by rw [hy1]; rfl
    obtain ⟨q, o, rfl, iq⟩ := hC.some (by omega)
    obtain ⟨K, ck, hK, n0⟩ := hC.node (a := .nil) hy1 rfl
    obtain ⟨kq, ko, rfl, ikq⟩ := hK.some (by decide)
    obtain ⟨K1, ck1, -, n1⟩ := hK.node (a := .nil) (x := byteN 97) (kids := .nil) (rest := .nil) rfl rfl
    have e0 : w4.cell? ⟨q, o, none⟩ = some (.int .i64 8) := n0 0 _ (ndA_0 _ _ _ _ _ _ _)
    have e1 : w4.cell? ⟨q, o + 259, none⟩ = some (.int .i64 (A : Int)) := by have := n0 259 _ (ndA_259 _ _ _ _ _ _ _); rwa [show Fr.nil.len * 262 + 259 = 259 from rfl] at this
    have e2 : w4.cell? ⟨q, o + 260, none⟩ = some (.int .i64 (A : Int)) := by have := n0 260 _ (ndA_260 _ _ _ _ _ _ _); rwa [show Fr.nil.len * 262 + 260 = 260 from rfl] at this
    have e3 : w4.cell? ⟨q, o + 261, none⟩ = some (.slice (some ⟨kq, ko, none⟩) 1 ck) := by have := n0 261 _ (ndA_261 _ _ _ _ _ _ _); rwa [show Fr.nil.len * 262 + 261 = 261 from rfl] at this
    have e4 : w4.cell? ⟨kq, ko + 1, none⟩ = some (.int .u8 97) := by have := n1 1 _ (ndA_1 _ _ _ _ _ _ _); rwa [show Fr.nil.len * 262 + 1 = 1 from rfl] at this
    clear n0 n1 hC hK hy1
    go_wp2_with fail
    (with_reducible refine (does_any _ (hs.grows (((k1).trans k3).trans k4))).mono ?_)
    rintro e w9 ⟨rfl, k9⟩
    go_wp2_with fail
    go_ret
    exact ⟨rfl, (((k1).trans k3).trans k4).trans k9⟩
  · rw [if_neg hw] at hbd
    have hy := pat_times_none hbd
    rw [hT9] at hy
    have HY := Lib.hid hy
    clear hy hbd hT1 hT9
    have v1 : decide ((A : Int) ≤ 255) = false := by rw [decide_eq_false_iff_not]; omega
    go_enter Tryd.func8, Tryd.ntmps8
    go_wp2_with fail
    (with_reducible refine hdA.mono ?_)
    rintro e w1 ⟨rfl, k1⟩
    go_wp2_with fail
    (with_reducible refine (bre_no l9 HY.out w1 (hs.grows (k1)) _ rfl).mono ?_)
    rintro e w3 ⟨rfl, k3⟩
    go_wp2_with fail
    (with_reducible refine (does_any _ (hs.grows ((k1).trans k3))).mono ?_)
    rintro e w9 ⟨rfl, k9⟩
    go_wp2_with fail
    go_ret
    exact ⟨rfl, ((k1).trans k3).trans k9⟩

set_option maxRecDepth 3000 in
set_option maxHeartbeats 1000000 in
theorem times_from (a b f : Nat) (ha : a ≤ 65535) (hb : b ≤ 65535) (hf : f ≤ 255) (hm : f % 3 = 1) (w : World) (hs : Sane w) : Calls Tryd.prog 8 #[.int .u16 a, .int .u16 b, .int .u8 f] w fun e w' => e = .returned (.bool true) ∧ Grows w w' := by
  obtain ⟨A, hA⟩ : ∃ A : Nat, a % 400 = A := ⟨_, rfl⟩
  obtain ⟨B, hB⟩ : ∃ B : Nat, b % 400 = B := ⟨_, rfl⟩
  have eA : (a : Int) % 400 = (A : Int) := by omega
  have eB : (b : Int) % 400 = (B : Int) := by omega
  have eF : (f : Int) % 3 = 1 := by omega
  have bA : A < 400 := by omega
  have bB : B < 400 := by omega
  clear hA hB hm
  have hdA := digits_any A w (by omega)
  have hlA := digitsV_len A (by omega)
  have hbd := bounds_from A (by omega)
  generalize hDA : digitsV A = DA at *
  clear hDA
  obtain ⟨T1, hT1⟩ : ∃ T, 97 :: 92 :: 123 :: DA = T := ⟨_, rfl⟩
  have c1 : (⟨#[97, 92, 123]⟩ : ByteArray) ++ tx DA = tx T1 := hT1 ▸ tx_append [97, 92, 123] DA
  have l1 : T1.length ≤ 6 := by rw [← hT1]; simp; omega
  obtain ⟨T2, hT2⟩ : ∃ T, 97 :: 92 :: 123 :: (DA ++ [44]) = T := ⟨_, rfl⟩
  have c2 : tx T1 ++ (⟨#[44]⟩ : ByteArray) = tx T2 := by rw [show (⟨#[44]⟩ : ByteArray) = tx [44] from rfl, tx_append, ← hT1, ← hT2]; rfl
  have l2 : T2.length ≤ 7 := by rw [← hT2]; simp; omega
  obtain ⟨T9, hT9⟩ : ∃ T, 97 :: 92 :: 123 :: (DA ++ [44, 92, 125]) = T := ⟨_, rfl⟩
  have c9 : tx T2 ++ (⟨#[92, 125]⟩ : ByteArray) = tx T9 := by rw [show (⟨#[92, 125]⟩ : ByteArray) = tx [92, 125] from rfl, tx_append, ← hT2, ← hT9]; simp
  have l9 : T9.length ≤ 1000000 := by rw [← hT9]; simp; omega
  by_cases hw : A ≤ 255
  · rw [if_pos hw] at hbd
    obtain ⟨y, hy, hy1⟩ := times_yes hbd
    rw [hT9] at hy
    have HY := Lib.hid hy
    clear hy hbd hT1 hT9 hT2
    have v1 : (A : Int) ≤ 255 := by omega
    go_enter Tryd.func8, Tryd.ntmps8
    go_wp2_with fail
    (with_reducible refine hdA.mono ?_)
    rintro e w1 ⟨rfl, k1⟩
    go_wp2_with fail
    (with_reducible refine (bre_yes l9 HY.out w1 (hs.grows (k1)) _ rfl).mono ?_)
    rintro e w3 ⟨g, rfl, R, -, k3⟩
    go_wp2_with fail
    (with_reducible refine (tree_any R (by rw [(patV_size HY.out).1]; have := (patV_size HY.out).2; omega)).mono ?_)
    rintro e w4 ⟨C, cap, rfl, hC, k4⟩
    have hlen : y.1.len = 1 := by rw [hy1]; rfl
    obtain ⟨q, o, rfl, iq⟩ := hC.some (by omega)
    obtain ⟨K, ck, hK, n0⟩ := hC.node (a := .nil) hy1 rfl
    obtain ⟨kq, ko, rfl, ikq⟩ := hK.some (by decide)
    obtain ⟨K1, ck1, -, n1⟩ := hK.node (a := .nil) (x := byteN 97) (kids := .nil) (rest := .nil) rfl rfl
    have e0 : w4.cell? ⟨q, o, none⟩ = some (.int .i64 8) := n0 0 _ (ndA_0 _ _ _ _ _ _ _)
    have e1 : w4.cell? ⟨q, o + 259, none⟩ = some (.int .i64 (A : Int)) := by have := n0 259 _ (ndA_259 _ _ _ _ _ _ _); rwa [show Fr.nil.len * 262 + 259 = 259 from rfl] at this
    have e2 : w4.cell? ⟨q, o + 260, none⟩ = some (.int .i64 (-1 : Int)) := by have := n0 260 _ (ndA_260 _ _ _ _ _ _ _); rwa [show Fr.nil.len * 262 + 260 = 260 from rfl] at this
    have e3 : w4.cell? ⟨q, o + 261, none⟩ = some (.slice (some ⟨kq, ko, none⟩) 1 ck) := by have := n0 261 _ (ndA_261 _ _ _ _ _ _ _); rwa [show Fr.nil.len * 262 + 261 = 261 from rfl] at this
    have e4 : w4.cell? ⟨kq, ko + 1, none⟩ = some (.int .u8 97) := by have := n1 1 _ (ndA_1 _ _ _ _ _ _ _); rwa [show Fr.nil.len * 262 + 1 = 1 from rfl] at this
    clear n0 n1 hC hK hy1
    go_wp2_with fail
    (with_reducible refine (does_any _ (hs.grows (((k1).trans k3).trans k4))).mono ?_)
    rintro e w9 ⟨rfl, k9⟩
    go_wp2_with fail
    go_ret
    exact ⟨rfl, (((k1).trans k3).trans k4).trans k9⟩
  · rw [if_neg hw] at hbd
    have hy := pat_times_none hbd
    rw [hT9] at hy
    have HY := Lib.hid hy
    clear hy hbd hT1 hT9 hT2
    have v1 : decide ((A : Int) ≤ 255) = false := by rw [decide_eq_false_iff_not]; omega
    go_enter Tryd.func8, Tryd.ntmps8
    go_wp2_with fail
    (with_reducible refine hdA.mono ?_)
    rintro e w1 ⟨rfl, k1⟩
    go_wp2_with fail
    (with_reducible refine (bre_no l9 HY.out w1 (hs.grows (k1)) _ rfl).mono ?_)
    rintro e w3 ⟨rfl, k3⟩
    go_wp2_with fail
    (with_reducible refine (does_any _ (hs.grows ((k1).trans k3))).mono ?_)
    rintro e w9 ⟨rfl, k9⟩
    go_wp2_with fail
    go_ret
    exact ⟨rfl, ((k1).trans k3).trans k9⟩

set_option maxRecDepth 3000 in
set_option maxHeartbeats 1000000 in
theorem times_both (a b f : Nat) (ha : a ≤ 65535) (hb : b ≤ 65535) (hf : f ≤ 255) (hm : f % 3 = 2) (w : World) (hs : Sane w) : Calls Tryd.prog 8 #[.int .u16 a, .int .u16 b, .int .u8 f] w fun e w' => e = .returned (.bool true) ∧ Grows w w' := by
  obtain ⟨A, hA⟩ : ∃ A : Nat, a % 400 = A := ⟨_, rfl⟩
  obtain ⟨B, hB⟩ : ∃ B : Nat, b % 400 = B := ⟨_, rfl⟩
  have eA : (a : Int) % 400 = (A : Int) := by omega
  have eB : (b : Int) % 400 = (B : Int) := by omega
  have eF : (f : Int) % 3 = 2 := by omega
  have bA : A < 400 := by omega
  have bB : B < 400 := by omega
  clear hA hB hm
  have hdA := digits_any A w (by omega)
  have hlA := digitsV_len A (by omega)
  have hlB := digitsV_len B (by omega)
  have hbd := bounds_both A B (by omega) (by omega)
  have hdB := fun w1 => digits_any B w1 (by omega)
  generalize hDA : digitsV A = DA at *
  generalize hDB : digitsV B = DB at *
  clear hDA hDB
  obtain ⟨T1, hT1⟩ : ∃ T, 97 :: 92 :: 123 :: DA = T := ⟨_, rfl⟩
  have c1 : (⟨#[97, 92, 123]⟩ : ByteArray) ++ tx DA = tx T1 := hT1 ▸ tx_append [97, 92, 123] DA
  have l1 : T1.length ≤ 6 := by rw [← hT1]; simp; omega
  obtain ⟨T2, hT2⟩ : ∃ T, 97 :: 92 :: 123 :: (DA ++ [44]) = T := ⟨_, rfl⟩
  have c2 : tx T1 ++ (⟨#[44]⟩ : ByteArray) = tx T2 := by rw [show (⟨#[44]⟩ : ByteArray) = tx [44] from rfl, tx_append, ← hT1, ← hT2]; rfl
  have l2 : T2.length ≤ 7 := by rw [← hT2]; simp; omega
  obtain ⟨T3, hT3⟩ : ∃ T, 97 :: 92 :: 123 :: (DA ++ 44 :: DB) = T := ⟨_, rfl⟩
  have c3 : tx T2 ++ tx DB = tx T3 := by rw [tx_append, ← hT2, ← hT3]; simp
  have l3 : T3.length ≤ 10 := by rw [← hT3]; simp; omega
  obtain ⟨T9, hT9⟩ : ∃ T, 97 :: 92 :: 123 :: (DA ++ 44 :: (DB ++ [92, 125])) = T := ⟨_, rfl⟩
  have c9 : tx T3 ++ (⟨#[92, 125]⟩ : ByteArray) = tx T9 := by rw [show (⟨#[92, 125]⟩ : ByteArray) = tx [92, 125] from rfl, tx_append, ← hT3, ← hT9]; simp
  have l9 : T9.length ≤ 1000000 := by rw [← hT9]; simp; omega
  by_cases hw : A ≤ 255 ∧ B ≤ 255 ∧ A ≤ B
  · rw [if_pos hw] at hbd
    obtain ⟨y, hy, hy1⟩ := times_yes hbd
    rw [hT9] at hy
    have HY := Lib.hid hy
    clear hy hbd hT1 hT9 hT2 hT3
    obtain ⟨w1, w2, w3⟩ := hw
    have v1 : (A : Int) ≤ 255 := by omega
    have v2 : (B : Int) ≤ 255 := by omega
    have v3 : (A : Int) ≤ (B : Int) := by omega
    go_enter Tryd.func8, Tryd.ntmps8
    go_wp2_with fail
    (with_reducible refine hdA.mono ?_)
    rintro e w1 ⟨rfl, k1⟩
    go_wp2_with fail
    (with_reducible refine (hdB _).mono ?_)
    rintro e w2 ⟨rfl, k2⟩
    go_wp2_with fail
    (with_reducible refine (bre_yes l9 HY.out w2 (hs.grows (k1.trans k2)) _ rfl).mono ?_)
    rintro e w3 ⟨g, rfl, R, -, k3⟩
    go_wp2_with fail
    (with_reducible refine (tree_any R (by rw [(patV_size HY.out).1]; have := (patV_size HY.out).2; omega)).mono ?_)
    rintro e w4 ⟨C, cap, rfl, hC, k4⟩
    have hlen : y.1.len = 1 := by rw [hy1]; rfl
    obtain ⟨q, o, rfl, iq⟩ := hC.some (by omega)
    obtain ⟨K, ck, hK, n0⟩ := hC.node (a := .nil) hy1 rfl
    obtain ⟨kq, ko, rfl, ikq⟩ := hK.some (by decide)
    obtain ⟨K1, ck1, -, n1⟩ := hK.node (a := .nil) (x := byteN 97) (kids := .nil) (rest := .nil) rfl rfl
    have e0 : w4.cell? ⟨q, o, none⟩ = some (.int .i64 8) := n0 0 _ (ndA_0 _ _ _ _ _ _ _)
    have e1 : w4.cell? ⟨q, o + 259, none⟩ = some (.int .i64 (A : Int)) := by have := n0 259 _ (ndA_259 _ _ _ _ _ _ _); rwa [show Fr.nil.len * 262 + 259 = 259 from rfl] at this
    have e2 : w4.cell? ⟨q, o + 260, none⟩ = some (.int .i64 (B : Int)) := by have := n0 260 _ (ndA_260 _ _ _ _ _ _ _); rwa [show Fr.nil.len * 262 + 260 = 260 from rfl] at this
    have e3 : w4.cell? ⟨q, o + 261, none⟩ = some (.slice (some ⟨kq, ko, none⟩) 1 ck) := by have := n0 261 _ (ndA_261 _ _ _ _ _ _ _); rwa [show Fr.nil.len * 262 + 261 = 261 from rfl] at this
    have e4 : w4.cell? ⟨kq, ko + 1, none⟩ = some (.int .u8 97) := by have := n1 1 _ (ndA_1 _ _ _ _ _ _ _); rwa [show Fr.nil.len * 262 + 1 = 1 from rfl] at this
    clear n0 n1 hC hK hy1
    go_wp2_with fail
    (with_reducible refine (does_any _ (hs.grows (((k1.trans k2).trans k3).trans k4))).mono ?_)
    rintro e w9 ⟨rfl, k9⟩
    go_wp2_with fail
    go_ret
    exact ⟨rfl, (((k1.trans k2).trans k3).trans k4).trans k9⟩
  · rw [if_neg hw] at hbd
    have hy := pat_times_none hbd
    rw [hT9] at hy
    have HY := Lib.hid hy
    clear hy hbd hT1 hT9 hT2 hT3
    have hcs : ¬A ≤ 255 ∨ (A ≤ 255 ∧ ¬B ≤ 255) ∨ (A ≤ 255 ∧ B ≤ 255 ∧ ¬A ≤ B) := by omega
    clear hw
    rcases hcs with v1 | ⟨v1, v2⟩ | ⟨v1, v2, v3⟩
    · have u1 : decide ((A : Int) ≤ 255) = false := by rw [decide_eq_false_iff_not]; omega
      go_enter Tryd.func8, Tryd.ntmps8
      go_wp2_with fail
      (with_reducible refine hdA.mono ?_)
      rintro e w1 ⟨rfl, k1⟩
      go_wp2_with fail
      (with_reducible refine (hdB _).mono ?_)
      rintro e w2 ⟨rfl, k2⟩
      go_wp2_with fail
      (with_reducible refine (bre_no l9 HY.out w2 (hs.grows (k1.trans k2)) _ rfl).mono ?_)
      rintro e w3 ⟨rfl, k3⟩
      go_wp2_with fail
      (with_reducible refine (does_any _ (hs.grows ((k1.trans k2).trans k3))).mono ?_)
      rintro e w9 ⟨rfl, k9⟩
      go_wp2_with fail
      go_ret
      exact ⟨rfl, ((k1.trans k2).trans k3).trans k9⟩
    · have u1 : (A : Int) ≤ 255 := by omega
      have u2 : decide ((B : Int) ≤ 255) = false := by rw [decide_eq_false_iff_not]; omega
      go_enter Tryd.func8, Tryd.ntmps8
      go_wp2_with fail
      (with_reducible refine hdA.mono ?_)
      rintro e w1 ⟨rfl, k1⟩
      go_wp2_with fail
      (with_reducible refine (hdB _).mono ?_)
      rintro e w2 ⟨rfl, k2⟩
      go_wp2_with fail
      (with_reducible refine (bre_no l9 HY.out w2 (hs.grows (k1.trans k2)) _ rfl).mono ?_)
      rintro e w3 ⟨rfl, k3⟩
      go_wp2_with fail
      (with_reducible refine (does_any _ (hs.grows ((k1.trans k2).trans k3))).mono ?_)
      rintro e w9 ⟨rfl, k9⟩
      go_wp2_with fail
      go_ret
      exact ⟨rfl, ((k1.trans k2).trans k3).trans k9⟩
    · have u1 : (A : Int) ≤ 255 := by omega
      have u2 : (B : Int) ≤ 255 := by omega
      have u3 : decide ((A : Int) ≤ (B : Int)) = false := by rw [decide_eq_false_iff_not]; omega
      go_enter Tryd.func8, Tryd.ntmps8
      go_wp2_with fail
      (with_reducible refine hdA.mono ?_)
      rintro e w1 ⟨rfl, k1⟩
      go_wp2_with fail
      (with_reducible refine (hdB _).mono ?_)
      rintro e w2 ⟨rfl, k2⟩
      go_wp2_with fail
      (with_reducible refine (bre_no l9 HY.out w2 (hs.grows (k1.trans k2)) _ rfl).mono ?_)
      rintro e w3 ⟨rfl, k3⟩
      go_wp2_with fail
      (with_reducible refine (does_any _ (hs.grows ((k1.trans k2).trans k3))).mono ?_)
      rintro e w9 ⟨rfl, k9⟩
      go_wp2_with fail
      go_ret
      exact ⟨rfl, ((k1.trans k2).trans k3).trans k9⟩

set_option maxRecDepth 3000 in
theorem bre_times (a b f : Nat) (ha : a ≤ 65535) (hb : b ≤ 65535) (hf : f ≤ 255) (w : World) (hs : Sane w) : Calls Tryd.prog 8 #[.int .u16 a, .int .u16 b, .int .u8 f] w fun e w' => e = .returned (.bool true) ∧ Grows w w' := by
  have h3 : f % 3 = 0 ∨ f % 3 = 1 ∨ f % 3 = 2 := by omega
  rcases h3 with h | h | h
  · exact times_alone a b f ha hb hf h w hs
  · exact times_from a b f ha hb hf h w hs
  · exact times_both a b f ha hb hf h w hs
end Go.Proofs.YtpignlkojlbhkaaDoor
