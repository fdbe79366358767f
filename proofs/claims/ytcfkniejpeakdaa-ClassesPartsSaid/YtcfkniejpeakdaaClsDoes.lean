/-
  Classes: the laws' own has and does, walked; sets that are the same.
-/
import Derived.Test.YtcfkniejpeakdaaClsParse
namespace Go.Proofs.Ytcfkniejpeakdaa
open Go.RowKit

attribute [local go_sem] tx_bt tx_from SA_getElem
attribute [local go_sem ↓] zero22
/-- How many bytes below j are in a set. -/
def cnt (p : Nat → Bool) : Nat → Nat
  | 0 => 0
  | j + 1 => cnt p j + if p j then 1 else 0
theorem cnt_le (p : Nat → Bool) (j : Nat) : cnt p j ≤ j := by
  induction j with
  | zero => simp [cnt]
  | succ j ih => unfold cnt; split <;> omega
def hasV (p : Nat → Bool) (s : List UInt8) : Bool := (s.all fun c => p c.toNat) && decide (cnt p 256 = s.length)
set_option maxRecDepth 100000 in
set_option maxHeartbeats 1000000 in
theorem has_any (p : Nat → Bool) (s : List UInt8) (w : World) (hl : s.length ≤ 100000) : Calls Try.prog 22 #[.agg (SA p), .string (tx s)] w fun e w' => e = .returned (.bool (hasV p s)) ∧ Grows w w' := by
  go_enter Try.func22, Try.ntmps22
  go_wp2_with fail
  go_loopg [5, 6] 256 (fun q v5 v6 wr => ∃ j : Nat, q + j = 256 ∧ v5 = .int .i64 (cnt p j) ∧ v6 = .int .i64 j ∧ wr = w.alloc (.cells (SA p) 22))
  case atStart => exact ⟨0, by omega, rfl, rfl, rfl⟩
  case round =>
    obtain ⟨j, hq, rfl, rfl, rfl⟩ := hrel
    have HQ := Lib.hid hq
    have hc := cnt_le p j
    clear hq
    by_cases h1 : j < 256
    · have j0 : (0 : Int) ≤ (j : Int) := by omega
      have j1 : (j : Int) < 256 := by omega
      cases hd : p j with
      | true =>
        have HC : Hid (cnt p (j + 1) = cnt p j + 1) := Lib.hid (by simp [cnt, hd])
        go_wp2_with fail
        go_roundg (gk - 1)
        case measure => have := HQ.out; omega
        case rel => exact ⟨j + 1, by have := HQ.out; omega, by rw [HC.out]; go_num, by go_num, rfl⟩
      | false =>
        have HC : Hid (cnt p (j + 1) = cnt p j) := Lib.hid (by simp [cnt, hd])
        go_wp2_with fail
        go_roundg (gk - 1)
        case measure => have := HQ.out; omega
        case rel => exact ⟨j + 1, by have := HQ.out; omega, by rw [HC.out], by go_num, rfl⟩
    · have j1 : ¬(j : Int) < 256 := by omega
      have hj : j = 256 := by have := HQ.out; omega
      subst hj
      go_wp2_with fail
      go_loopg [7] s.length (fun q v7 wr => ∃ i : Nat, q + i = s.length ∧ v7 = .int .i64 i ∧ (s.take i).all (fun c => p c.toNat) = true ∧ wr = w.alloc (.cells (SA p) 22))
      case atStart => exact ⟨0, by omega, rfl, by simp, rfl⟩
      case round =>
        obtain ⟨i, hq2, rfl, ha, rfl⟩ := hrel
        have HQ2 := Lib.hid hq2
        have HA := Lib.hid ha
        have hib : i ≤ 100000 := by omega
        clear hq2 ha
        have i0 : (0 : Int) ≤ (i : Int) := by omega
        by_cases h2 : i < s.length
        · have i1 : (i : Int) < (s.length : Int) := by omega
          have hb := bt_lt s i
          have b0 : (0 : Int) ≤ (bt s i : Int) := by omega
          have b1 : (bt s i : Int) < 256 := by omega
          have HT : Hid ((s.take (i + 1)).all (fun c => p c.toNat) = p (bt s i)) := Lib.hid (by rw [List.take_add_one, List.getElem?_eq_getElem h2, List.all_append, HA.out, bt_get s i h2]; simp)
          cases hd : p (bt s i) with
          | true =>
            rw [hd] at HT
            go_wp2_with fail
            go_roundg (gk - 1)
            case measure => have := HQ2.out; omega
            case rel => exact ⟨i + 1, by have := HQ2.out; omega, by go_num, HT.out, rfl⟩
          | false =>
            have HV : Hid (hasV p s = false) := Lib.hid (by
              unfold hasV
              rw [Bool.and_eq_false_iff]
              refine Or.inl ?_
              rw [List.all_eq_false]
              exact ⟨s[i], List.getElem_mem h2, by rw [← bt_get s i h2, hd]; simp⟩)
            go_wp2_with fail
            go_ret
            exact ⟨by rw [HV.out]; rfl, (Grows.refl _).alloc _⟩
        · have i1 : ¬(i : Int) < (s.length : Int) := by omega
          have hti : s.take i = s := List.take_of_length_le (by omega)
          have HV : Hid (hasV p s = decide (cnt p 256 = s.length)) := Lib.hid (by unfold hasV; have := HA.out; rw [hti] at this; rw [this, Bool.true_and])
          by_cases h3 : cnt p 256 = s.length
          · have e1 : ((cnt p 256 : Int) == (s.length : Int)) = true := ieq_true (by omega)
            go_wp2_with fail
            go_ret
            exact ⟨by rw [HV.out]; simp [h3], (Grows.refl _).alloc _⟩
          · have e1 : ((cnt p 256 : Int) == (s.length : Int)) = false := ieq_false (by omega)
            go_wp2_with fail
            go_ret
            exact ⟨by rw [HV.out]; simp [h3], (Grows.refl _).alloc _⟩
theorem equal22 (w : World) (p : Nat → Bool) : (Op.equalIn 10000 22 (.agg (SA p)) (.agg (SA p))).run Try.prog w = .ok true w := by
  refine run_equalIn_array_same w 9999 22 4 256 (SA p) Try.underlying22 Try.sizeOf4 fun i hi => ⟨.bool (p i), fun w => ⟨?_, ?_⟩⟩
  · simp [go_sem, hi]
  · simp [go_sem]
theorem has1 : hasV (parseA [120, 91, 97, 45, 99, 45, 101, 93, 121] 1).1 [97, 98, 99, 45, 101] = true := by kernel_rfl
theorem par1 : (parseA [120, 91, 97, 45, 99, 45, 101, 93, 121] 1).2 = (8, 0) := by kernel_rfl
theorem has2 : hasV (parseA [91, 93, 97, 93] 0).1 [93, 97] = true := by kernel_rfl
theorem par2 : (parseA [91, 93, 97, 93] 0).2.2 = 0 := by kernel_rfl
theorem has3 : hasV (parseA [91, 91, 58, 100, 105, 103, 105, 116, 58, 93, 120, 93] 0).1 [48, 49, 50, 51, 52, 53, 54, 55, 56, 57, 120] = true := by kernel_rfl
theorem par3 : (parseA [91, 91, 58, 100, 105, 103, 105, 116, 58, 93, 120, 93] 0).2.2 = 0 := by kernel_rfl
theorem par4 : (parseA [91, 99, 45, 97, 93] 0).2 = (0, 90) := by kernel_rfl
theorem cls5 : (clsOf (tx [102, 111, 111])).isSome = false := by kernel_rfl
/-- Where what was there is read, behind more. -/
theorem sane_step {w w' : World} (h : Sane w) (hg : Grows w w') : Sane w' := h.grows hg
theorem parse_lit (a : Array UInt8) (at_ : Int) (w : World) (r : (Nat → Bool) × Int × Int) (hr : parseA a.toList at_ = r) (hl : a.toList.length ≤ 1000000) (hs : Sane w) (ha : I64 at_) : Calls Try.prog 10 #[.string ⟨a⟩, .int .i64 at_] w (ParsePost r w) := by
  subst hr
  exact parse_any a.toList at_ w hl hs ha
theorem has_lit (p : Nat → Bool) (a : Array UInt8) (w : World) (b : Bool) (hb : hasV p a.toList = b) (hl : a.toList.length ≤ 100000) : Calls Try.prog 22 #[.agg (SA p), .string ⟨a⟩] w fun e w' => e = .returned (.bool b) ∧ Grows w w' := by
  subst hb
  exact has_any p a.toList w hl
theorem split3 {r : (Nat → Bool) × Int × Int} {x y : Int} (h : r.2 = (x, y)) : r = (r.1, x, y) := by rw [← h]
theorem split2 {r : (Nat → Bool) × Int × Int} {y : Int} (h : r.2.2 = y) : r = (r.1, r.2.1, y) := by rw [← h]
set_option maxRecDepth 100000 in
set_option maxHeartbeats 4000000 in
theorem does_any (w : World) (hs : Sane w) : Calls Try.prog 12 #[] w fun e w' => e = .returned (.bool true) ∧ Grows w w' := by
  have h1 := has1
  have r1 := split3 par1
  generalize (parseA [120, 91, 97, 45, 99, 45, 101, 93, 121] 1).1 = q1 at h1 r1
  have h2 := has2
  obtain ⟨n2, r2⟩ : ∃ n2 : Int, parseA [91, 93, 97, 93] 0 = ((parseA [91, 93, 97, 93] 0).1, n2, 0) := ⟨(parseA [91, 93, 97, 93] 0).2.1, split2 par2⟩
  generalize (parseA [91, 93, 97, 93] 0).1 = q2 at h2 r2
  have h3 := has3
  obtain ⟨n3, r3⟩ : ∃ n3 : Int, parseA [91, 91, 58, 100, 105, 103, 105, 116, 58, 93, 120, 93] 0 = ((parseA [91, 91, 58, 100, 105, 103, 105, 116, 58, 93, 120, 93] 0).1, n3, 0) := ⟨(parseA [91, 91, 58, 100, 105, 103, 105, 116, 58, 93, 120, 93] 0).2.1, split2 par3⟩
  generalize (parseA [91, 91, 58, 100, 105, 103, 105, 116, 58, 93, 120, 93] 0).1 = q3 at h3 r3
  have r4 := split3 par4
  generalize (parseA [91, 99, 45, 97, 93] 0).1 = q4 at r4
  have c5 : (clsOf ⟨#[102, 111, 111]⟩).isSome = false := cls5
  have H1 := Lib.hid h1
  have H2 := Lib.hid h2
  have H3 := Lib.hid h3
  have R1 := Lib.hid r1
  have R2 := Lib.hid r2
  have R3 := Lib.hid r3
  have R4 := Lib.hid r4
  have C5 := Lib.hid c5
  have HS := Lib.hid hs
  clear h1 h2 h3 r1 r2 r3 r4 c5 hs
  have i0 : I64 0 := ⟨by omega, by omega⟩
  have i1 : I64 1 := ⟨by omega, by omega⟩
  go_enter Try.func12, Try.ntmps12
  go_wp2_with fail
  (with_reducible refine (parse_lit _ 1 w _ R1.out (by decide) HS.out i1).mono ?_)
  rintro e w1 ⟨rfl, m1, rfl⟩
  go_wp2_with fail
  (with_reducible refine (parse_lit _ 0 _ _ R2.out (by decide) (HS.out.grows (by repeat' first | exact Grows.refl _ | refine Grows.more ?_ _ | refine Grows.alloc ?_ _ | refine Grows.drew ?_)) i0).mono ?_)
  rintro e w2 ⟨rfl, m2, rfl⟩
  go_wp2_with fail
  (with_reducible refine (parse_lit _ 0 _ _ R3.out (by decide) (HS.out.grows (by repeat' first | exact Grows.refl _ | refine Grows.more ?_ _ | refine Grows.alloc ?_ _ | refine Grows.drew ?_)) i0).mono ?_)
  rintro e w3 ⟨rfl, m3, rfl⟩
  go_wp2_with fail
  (with_reducible refine (parse_lit _ 0 _ _ R4.out (by decide) (HS.out.grows (by repeat' first | exact Grows.refl _ | refine Grows.more ?_ _ | refine Grows.alloc ?_ _ | refine Grows.drew ?_)) i0).mono ?_)
  rintro e w4 ⟨rfl, m4, rfl⟩
  go_wp2_with fail
  (with_reducible refine (class_any _ _).mono ?_)
  rw [C5.out]
  rintro e w5 ⟨rfl, m5, rfl⟩
  go_wp2_with fail
  (with_reducible refine (has_lit q1 _ _ _ H1.out (by decide)).mono ?_)
  rintro e w6 ⟨rfl, m6, rfl⟩
  go_wp2_with fail
  (with_reducible refine (has_lit q2 _ _ _ H2.out (by decide)).mono ?_)
  rintro e w7 ⟨rfl, m7, rfl⟩
  go_wp2_with fail
  (with_reducible refine (has_lit q3 _ _ _ H3.out (by decide)).mono ?_)
  rintro e w8 ⟨rfl, m8, rfl⟩
  go_wp2_with fail
  go_ret
  exact ⟨rfl, (by repeat' first | exact Grows.refl _ | refine Grows.more ?_ _ | refine Grows.alloc ?_ _ | refine Grows.drew ?_)⟩
end Go.Proofs.Ytcfkniejpeakdaa
