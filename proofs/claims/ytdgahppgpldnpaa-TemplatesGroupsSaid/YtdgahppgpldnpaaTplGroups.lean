/-
  Templates: the law TemplatesGroups.
-/
import Derived.Test.YtdgahppgpldnpaaTplCut
namespace Go.Proofs.Ytdgahppgpldnpaa
open Go.RowKit

attribute [local go_sem] tx_bt tx_from tx_toList nums_size nums_set zs_length
attribute [local go_sem ↓] zeroS
/-- The spans with one of them. -/
def oneM (k : Nat) (x y : Int) : List Int := (zs.set (k * 2) x).set (k * 2 + 1) y
theorem oneM_length (k : Nat) (x y : Int) : (oneM k x y).length = 20 := by simp [oneM, zs_length]
theorem oneM_sp (k : Nat) (x y : Int) (hk : k < 10) : sp (oneM k x y) (k * 2) = x ∧ sp (oneM k x y) (k * 2 + 1) = y := by
  unfold sp oneM
  rw [List.getD_eq_getElem?_getD, List.getD_eq_getElem?_getD]
  have h1 : k * 2 + 1 < ((zs.set (k * 2) x)).length := by rw [List.length_set, zs_length]; omega
  have h2 : k * 2 < zs.length := by rw [zs_length]; omega
  rw [List.getElem?_set_ne (by omega), List.getElem?_set_self h2, List.getElem?_set_self h1]
  exact ⟨rfl, rfl⟩
/-- What the group tells. -/
def wantV (s : List UInt8) (x y : Int) : List UInt8 := if 0 ≤ x ∧ x ≤ y ∧ y ≤ s.length then (s.drop x.toNat).take (y.toNat - x.toNat) else []
theorem oneM_str (s : List UInt8) (k : Nat) (x y : Int) (hk : k < 10) : strV s (oneM k x y) k = wantV s x y := by
  unfold strV wantV
  rw [(oneM_sp k x y hk).1, (oneM_sp k x y hk).2]
theorem wantV_len (s : List UInt8) (x y : Int) : (wantV s x y).length ≤ s.length := by
  unfold wantV
  split
  · simp; omega
  · simp
set_option maxRecDepth 100000 in
set_option maxHeartbeats 8000000 in
theorem templatesGroups_law (s a : List UInt8) (n : Nat) (x y : Int) (w : World) (hs : s.length ≤ 9223372036854775807) (ha : a.length ≤ 9223372036854775807) (hn : n < 256) (hx : I64 x) (hy : I64 y) : Calls Try.prog 7 #[.agg #[.string (tx s), .string (tx a)], .int .u8 n, .agg #[.int .i64 x, .int .i64 y]] w fun e w' => e = .returned (.bool true) ∧ Grows w w' := by
  go_enter Try.func7, Try.ntmps7
  go_wp2_with fail
  go_quiet (fail)
  by_cases h1 : 1000 < s.length
  · have c1 : (1000 : Int) < (s.length : Int) := by omega
    go_wp2_with fail
    go_ret
    exact ⟨rfl, (((Grows.refl _).alloc _).alloc _).drewN _⟩
  have c1 : ¬(1000 : Int) < (s.length : Int) := by omega
  by_cases h2 : 100 < a.length
  · have c2 : (100 : Int) < (a.length : Int) := by omega
    go_wp2_with fail
    go_ret
    exact ⟨rfl, (((Grows.refl _).alloc _).alloc _).drewN _⟩
  have c2 : ¬(100 : Int) < (a.length : Int) := by omega
  have hG0 : Grows w (((w.alloc (.cells #[.string (tx s), .string (tx a)] 40)).alloc (.cells #[.int .i64 x, .int .i64 y] 22)).drewN nq) := (((Grows.refl _).alloc _).alloc _).drewN _
  have HG0 := Lib.hid hG0
  clear hG0
  go_wp2_with fail
  go_loopg [9] a.length (fun q v9 wr => ∃ i : Nat, q + i = a.length ∧ v9 = .int .i64 i ∧ (∀ c ∈ a.take i, c.toNat ≠ 38 ∧ c.toNat ≠ 92) ∧ wr = ((w.alloc (.cells #[.string (tx s), .string (tx a)] 40)).alloc (.cells #[.int .i64 x, .int .i64 y] 22)).drewN nq)
  case atStart => exact ⟨0, by omega, rfl, by simp, rfl⟩
  case round =>
    obtain ⟨i, hq, rfl, hall, rfl⟩ := hrel
    have HQ := Lib.hid hq
    have HALL := Lib.hid hall
    have hib : i ≤ 100 := by omega
    clear hq hall
    have i0 : (0 : Int) ≤ (i : Int) := by omega
    by_cases h4 : i < a.length
    · have i1 : (i : Int) < (a.length : Int) := by omega
      by_cases h5 : bt a i = 38 ∨ bt a i = 92
      · rcases h5 with h5 | h5
        · have e1 : ((bt a i : Int) == 38) = true := by rw [h5]; rfl
          clear h5
          go_wp2_with fail
          (with_reducible refine (does_any _).mono ?_)
          rintro e w1 ⟨rfl, m3, rfl⟩
          go_wp2_with fail
          go_ret
          exact ⟨rfl, HG0.out.more _⟩
        · have e1 : ((bt a i : Int) == 38) = false := by rw [h5]; rfl
          have e2 : ((bt a i : Int) == 92) = true := by rw [h5]; rfl
          clear h5
          go_wp2_with fail
          (with_reducible refine (does_any _).mono ?_)
          rintro e w1 ⟨rfl, m3, rfl⟩
          go_wp2_with fail
          go_ret
          exact ⟨rfl, HG0.out.more _⟩
      · have e1 : ((bt a i : Int) == 38) = false := by rw [beq_eq_false_iff_ne]; omega
        have e2 : ((bt a i : Int) == 92) = false := by rw [beq_eq_false_iff_ne]; omega
        have HN : Hid (∀ c ∈ a.take (i + 1), c.toNat ≠ 38 ∧ c.toNat ≠ 92) := Lib.hid (by
          intro c hc
          rw [List.take_add_one, List.getElem?_eq_getElem h4, List.mem_append] at hc
          rcases hc with hc | hc
          · exact HALL.out c hc
          · simp at hc
            subst hc
            rw [bt_get a i h4] at h5
            omega)
        clear h5
        go_wp2_with fail
        go_roundg (gk - 1)
        case measure => have := HQ.out; omega
        case rel => exact ⟨i + 1, by have := HQ.out; omega, by go_num, HN.out, rfl⟩
    · have i1 : ¬(i : Int) < (a.length : Int) := by omega
      have hti : a.take i = a := List.take_of_length_le (by omega)
      have hall := HALL.out
      rw [hti] at hall
      have hk10 : n % 10 < 10 := Nat.mod_lt _ (by omega)
      have hmod : Int.tmod (n : Int) 10 = ((n % 10 : Nat) : Int) := by rw [Int.tmod_eq_emod_of_nonneg (by omega)]; rfl
      generalize n % 10 = k at *
      obtain ⟨g1, g2, g3⟩ := grp_law a k hk10 hall
      have hstr := oneM_str s k x y hk10
      have hwl := wantV_len s x y
      have hol := oneM_length k x y
      have hosz := nums_size (oneM k x y)
      rw [hol] at hosz
      have honec := nums_one (oneM k x y)
      have hset : nums ((zs.set (k * 2) x).set (k * 2 + 1) y) = nums (oneM k x y) := rfl
      have hE := g3 (strV s (oneM k x y))
      rw [hstr] at hE
      have k0 : (0 : Int) ≤ (k : Int) := by omega
      have k1 : (k : Int) < 10 := by omega
      have l1 : k * 2 < 20 := by omega
      have l2 : k * 2 + 1 < 20 := by omega
      have b1 : tx a ++ tx (sgnV k) = tx (a ++ sgnV k) := tx_append _ _
      have b2 : tx (a ++ sgnV k) ++ tx a = tx (a ++ (sgnV k ++ a)) := by rw [tx_append, List.append_assoc]
      have b3 : tx (a ++ (sgnV k ++ a)) ++ tx (sgnV k) = tx (a ++ (sgnV k ++ (a ++ sgnV k))) := by rw [tx_append]; simp
      have d1 : tx a ++ tx (wantV s x y) = tx (a ++ wantV s x y) := tx_append _ _
      have d2 : tx (a ++ wantV s x y) ++ tx a = tx (a ++ (wantV s x y ++ a)) := by rw [tx_append, List.append_assoc]
      have d3 : tx (a ++ (wantV s x y ++ a)) ++ tx (wantV s x y) = tx (a ++ (wantV s x y ++ (a ++ wantV s x y))) := by rw [tx_append]; simp
      have hsl : (sgnV k).length ≤ 2 := by unfold sgnV; split <;> simp
      have hzl : (a ++ (sgnV k ++ (a ++ sgnV k))).length ≤ 1000 := by simp; omega
      have hW : wantV s x y = if 0 ≤ x ∧ x ≤ y ∧ y ≤ s.length then (s.drop x.toNat).take (y.toNat - x.toNat) else [] := rfl
      obtain ⟨c8, hc8, hS⟩ : ∃ c8 : UInt8, c8.toNat = 48 + k ∧ sgnV k = if 0 < k then [92, c8] else [38] := ⟨UInt8.ofNat (48 + k), by simp; omega, rfl⟩
      have HC8 := Lib.hid hc8
      have G1 := Lib.hid g1
      have G2 := Lib.hid g2
      have HE := Lib.hid hE
      have HW := Lib.hid hW
      have HS := Lib.hid hS
      have HOL := Lib.hid hol
      clear g1 g2 g3 hE hW hS hc8 hol hti hall hstr
      generalize wantV s x y = wv at *
      generalize a ++ (sgnV k ++ (a ++ sgnV k)) = Z at *
      generalize oneM k x y = ms at *
      generalize sgnV k = sg at *
      have hsg : (¬(0 : Int) < (k : Int) ∧ (⟨#[38]⟩ : ByteArray) = tx sg) ∨ ((0 : Int) < (k : Int) ∧ (⟨#[92]⟩ : ByteArray) ++ tx [c8] = tx sg) := by
        rcases Nat.eq_zero_or_pos k with h | h
        · exact .inl ⟨by omega, by rw [HS.out, if_neg (by omega)]; rfl⟩
        · exact .inr ⟨by omega, by rw [HS.out, if_pos h]; exact tx_append [92] _⟩
      have hwv : (x < 0 ∧ (⟨#[]⟩ : ByteArray) = tx wv) ∨ (0 ≤ x ∧ y < x ∧ (⟨#[]⟩ : ByteArray) = tx wv) ∨ (0 ≤ x ∧ x ≤ y ∧ (s.length : Int) < y ∧ (⟨#[]⟩ : ByteArray) = tx wv) ∨ (∃ xn yn : Nat, x = xn ∧ y = yn ∧ xn ≤ yn ∧ yn ≤ s.length ∧ (tx s).extract xn yn = tx wv) := by
        by_cases q1 : x < 0
        · exact .inl ⟨q1, by rw [HW.out, if_neg (by omega)]; rfl⟩
        by_cases q2 : y < x
        · exact .inr (.inl ⟨by omega, q2, by rw [HW.out, if_neg (by omega)]; rfl⟩)
        by_cases q3 : (s.length : Int) < y
        · exact .inr (.inr (.inl ⟨by omega, by omega, q3, by rw [HW.out, if_neg (by omega)]; rfl⟩))
        · exact .inr (.inr (.inr ⟨x.toNat, y.toNat, by omega, by omega, by omega, by omega, by rw [HW.out, if_pos (by omega), tx_mid]⟩))
      have hcv := fun W n => conv_one c8 ((48 : Int) + k) (by rw [HC8.out]; omega) W n
      have hcv2 := fun n => hcv ((((w.alloc (.cells #[.string (tx s), .string (tx a)] 40)).alloc (.cells #[.int .i64 x, .int .i64 y] 22)).drewN nq).alloc (.cells (nums ms) 23)) n
      rw [show ((((w.alloc (.cells #[.string (tx s), .string (tx a)] 40)).alloc (.cells #[.int .i64 x, .int .i64 y] 22)).drewN nq).alloc (.cells (nums ms) 23)).heap.size = w.heap.size + 1 + 1 + 1 by simp] at hcv2
      have HSG := Lib.hid hsg
      clear hcv hsg
      rcases hwv with ⟨q1, qe⟩ | ⟨q1, q2, qe⟩ | ⟨q1, q2, q3, qe⟩ | ⟨xn, yn, rfl, rfl, q3, q4, qe⟩
      all_goals
        rcases HSG.out with ⟨p1, pe⟩ | ⟨p1, pe⟩
      all_goals
        go_wp2_with fail
        (with_reducible refine (parse_yes Z _ (by omega) G1.out).mono ?_)
        rintro e w1 ⟨g, rfl, hT, m1, rfl⟩
        have HT := Lib.hid hT
        clear hT
        go_wp2_with fail
        (with_reducible refine (expand_yes Z s ms g _ (HT.out.grows (by repeat' first | exact Grows.refl _ | refine Grows.more ?_ _ | refine Grows.alloc ?_ _ | refine Grows.drewN ?_ _ | refine Grows.drew ?_)) (by omega) HOL.out (by omega)).mono ?_)
        rw [HE.out]
        rintro e w1 ⟨rfl, m2, rfl⟩
        go_wp2_with fail
        (with_reducible refine (most_lit Z k g _ (HT.out.grows (by repeat' first | exact Grows.refl _ | refine Grows.more ?_ _ | refine Grows.alloc ?_ _ | refine Grows.drewN ?_ _ | refine Grows.drew ?_)) (by omega) G2.out).mono ?_)
        rintro e w1 ⟨rfl, rfl⟩
        go_wp2_with fail
        (with_reducible refine (does_any _).mono ?_)
        rintro e w1 ⟨rfl, m3, rfl⟩
        go_wp2_with fail
        go_ret
        exact ⟨rfl, (by repeat' first | exact Grows.refl _ | refine Grows.more ?_ _ | refine Grows.alloc ?_ _ | refine Grows.drewN ?_ _ | refine Grows.drew ?_)⟩
end Go.Proofs.Ytdgahppgpldnpaa
