/-
  Templates: the laws TemplatesCut and TemplatesItself.
-/
import Derived.Test.YtdgahppgpldnpaaTplTell
namespace Go.Proofs.Ytdgahppgpldnpaa
open Go.RowKit

attribute [local go_sem] tx_bt tx_from tx_toList nums_size
theorem conv_one (c : UInt8) (z : Int) (hz : z = c.toNat) (W : World) (n : Nat) : (convert 41 9 (.slice (some ⟨W.heap.size, 0, none⟩) 1 n)).run Try.prog (W.alloc (.cells #[.int .u8 z] 5)) = .ok (.string (tx [c])) (W.alloc (.cells #[.int .u8 z] 5)) := by
  subst hz
  have := run_convert_bytes_back (P := Try.prog) (W.alloc (.cells #[.int .u8 c.toNat] 5)) 41 9 5 ⟨W.heap.size, 0, none⟩ n [c] Try.underlying41 Try.underlying5 Try.underlying9
  exact this (fun j hj => by
    have : j = 0 := by simp at hj; omega
    subst this
    simp [go_sem])
set_option maxRecDepth 100000 in
set_option maxHeartbeats 4000000 in
theorem templatesCut_law (t : List UInt8) (c : UInt8) (z : Int) (w : World) (ht : t.length ≤ 9223372036854775807) (hz : z = c.toNat) : Calls Try.prog 8 #[.string (tx t), .int .u8 z] w fun e w' => e = .returned (.bool true) ∧ Grows w w' := by
  have hzr : 0 ≤ z ∧ z < 256 := by have := c.toNat_lt; omega
  have hcv := fun W n => conv_one c z hz W n
  obtain ⟨q1, q2⟩ := cut_law t c
  have Q1 := Lib.hid q1
  have Q2 := Lib.hid q2
  clear hz q1 q2
  go_enter Try.func8, Try.ntmps8
  by_cases h1 : 1000 < t.length
  · have c1 : (1000 : Int) < (t.length : Int) := by omega
    go_wp2_with fail
    go_ret
    exact ⟨rfl, Grows.refl _⟩
  have c1 : ¬(1000 : Int) < (t.length : Int) := by omega
  cases hc : chkB t with
  | false =>
    obtain ⟨k1, k2, k3⟩ := Q2.out hc
    have HC := Lib.hid hc
    have HK := Lib.hid k1
    have hpos : 0 < t.length := List.length_pos_iff.2 k2
    have hbt : bt t (t.length - 1) = 92 := by
      rw [List.getLast?_eq_getElem?, List.getElem?_eq_getElem (by omega)] at k3
      rw [bt_get t _ (by omega)]
      injection k3 with k3
      rw [k3]; rfl
    have hcat : tx t ++ tx [c] = tx (t ++ [c]) := tx_append _ _
    have hne : t.isEmpty = false := by cases t with | nil => exact absurd rfl k2 | cons => rfl
    have hlz : (t ++ [c]).length ≤ 1001 := by simp; omega
    obtain ⟨n, hn⟩ : ∃ n, t.length = n + 1 := ⟨t.length - 1, by omega⟩
    rw [hn, Nat.add_sub_cancel] at hbt
    have e1 : ((bt t n : Int) == 92) = true := by rw [hbt]; rfl
    have hW := hcv (w.alloc (.cells #[.int .u8 z] 5))
    clear hc k1 k2 k3 hbt hW
    go_wp2_with fail
    (with_reducible refine (parse_no t _ (by omega) HC.out).mono ?_)
    rintro e w1 ⟨rfl, m1, rfl⟩
    have hcv2 := fun n => hcv (more w m1) n
    rw [show (more w m1).heap.size = w.heap.size + m1.bs.size by simp] at hcv2
    clear hcv
    go_wp2_with fail
    (with_reducible refine (parse_yes (t ++ [c]) _ (by omega) HK.out).mono ?_)
    rintro e w1 ⟨g, rfl, -, m2, rfl⟩
    go_wp2_with fail
    (with_reducible refine (does_any _).mono ?_)
    rintro e w1 ⟨rfl, m3, rfl⟩
    go_wp2_with fail
    go_ret
    exact ⟨rfl, (by repeat' first | exact Grows.refl _ | refine Grows.more ?_ _ | refine Grows.alloc ?_ _ | refine Grows.drewN ?_ _ | refine Grows.drew ?_)⟩
  | true =>
    have HK := Lib.hid (Q1.out hc)
    have HC := Lib.hid hc
    have hcat : tx t ++ ⟨#[92]⟩ = tx (t ++ [92]) := tx_append _ [92]
    have hlz : (t ++ [92]).length ≤ 1001 := by simp; omega
    clear hc hcv
    go_wp2_with fail
    (with_reducible refine (parse_yes t _ (by omega) HC.out).mono ?_)
    rintro e w1 ⟨g, rfl, -, m1, rfl⟩
    go_wp2_with fail
    (with_reducible refine (parse_no (t ++ [92]) _ (by omega) HK.out).mono ?_)
    rintro e w1 ⟨rfl, m2, rfl⟩
    go_wp2_with fail
    (with_reducible refine (does_any _).mono ?_)
    rintro e w1 ⟨rfl, m3, rfl⟩
    go_wp2_with fail
    go_ret
    exact ⟨rfl, (by repeat' first | exact Grows.refl _ | refine Grows.more ?_ _ | refine Grows.alloc ?_ _ | refine Grows.drewN ?_ _ | refine Grows.drew ?_)⟩
theorem esc_take (t : List UInt8) (i : Nat) (h : i < t.length) : escV (t.take (i + 1)) = if bt t i = 38 ∨ bt t i = 92 then (escV (t.take i) ++ [92]) ++ [t[i]] else escV (t.take i) ++ [t[i]] := by
  rw [List.take_add_one, List.getElem?_eq_getElem h, Option.toList_some, escV_append, bt_get t i h]
  show _ ++ ((if t[i].toNat = 38 ∨ t[i].toNat = 92 then [92, t[i]] else [t[i]]) ++ []) = _
  split <;> simp
set_option maxRecDepth 100000 in
set_option maxHeartbeats 4000000 in
theorem templatesItself_law (t s : List UInt8) (ms : List Int) (w : World) (hm : ms.length = 20) (ht : t.length ≤ 9223372036854775807) (hs : s.length ≤ 9223372036854775807) : Calls Try.prog 6 #[.string (tx t), .string (tx s), .agg (nums ms)] w fun e w' => e = .returned (.bool true) ∧ Grows w w' := by
  have HM := Lib.hid hm
  have hsz := nums_size ms
  rw [hm] at hsz
  have h1c := nums_one ms
  clear hm
  go_enter Try.func6, Try.ntmps6
  by_cases h1 : 1000 < t.length
  · have c1 : (1000 : Int) < (t.length : Int) := by omega
    go_wp2_with fail
    go_ret
    exact ⟨rfl, (Grows.refl _).alloc _⟩
  have c1 : ¬(1000 : Int) < (t.length : Int) := by omega
  by_cases h2 : 1000 < s.length
  · have c2 : (1000 : Int) < (s.length : Int) := by omega
    go_wp2_with fail
    go_ret
    exact ⟨rfl, (Grows.refl _).alloc _⟩
  have c2 : ¬(1000 : Int) < (s.length : Int) := by omega
  go_wp2_with fail
  go_loopg [7, 8] t.length (fun q v7 v8 wr => ∃ i : Nat, q + i = t.length ∧ v7 = .string (tx (escV (t.take i))) ∧ v8 = .int .i64 i ∧ wr = w.alloc (.cells (nums ms) 23))
  case atStart => exact ⟨0, by omega, rfl, rfl, rfl⟩
  case round =>
    obtain ⟨i, hq, rfl, rfl, rfl⟩ := hrel
    have HQ := Lib.hid hq
    have hib : i ≤ 1000 := by omega
    clear hq
    have i0 : (0 : Int) ≤ (i : Int) := by omega
    by_cases h4 : i < t.length
    · have i1 : (i : Int) < (t.length : Int) := by omega
      have hone := tx_one t i h4
      have hel := escV_len (t.take i)
      have hel2 : (escV (t.take i)).length ≤ 2000 := by simp at hel; omega
      have HT := Lib.hid (esc_take t i h4)
      generalize escV (t.take i) = p at *
      clear hel
      by_cases h5 : bt t i = 38
      · have e1 : ((bt t i : Int) == 38) = true := by rw [h5]; rfl
        have HP := Lib.hid (HT.out.trans (if_pos (.inl h5)))
        have a1 : tx p ++ ⟨#[92]⟩ = tx (p ++ [92]) := tx_append _ [92]
        have a2 : tx (p ++ [92]) ++ tx [t[i]] = tx (p ++ [92] ++ [t[i]]) := tx_append _ _
        clear h5
        go_wp2_with fail
        go_roundg (gk - 1)
        case measure => have := HQ.out; omega
        case rel => exact ⟨i + 1, by have := HQ.out; omega, by rw [HP.out]; simp, by go_num, rfl⟩
      · have e1 : ((bt t i : Int) == 38) = false := by rw [beq_eq_false_iff_ne]; omega
        by_cases h6 : bt t i = 92
        · have e2 : ((bt t i : Int) == 92) = true := by rw [h6]; rfl
          have HP := Lib.hid (HT.out.trans (if_pos (.inr h6)))
          have a1 : tx p ++ ⟨#[92]⟩ = tx (p ++ [92]) := tx_append _ [92]
          have a2 : tx (p ++ [92]) ++ tx [t[i]] = tx (p ++ [92] ++ [t[i]]) := tx_append _ _
          clear h5 h6
          go_wp2_with fail
          go_roundg (gk - 1)
          case measure => have := HQ.out; omega
          case rel => exact ⟨i + 1, by have := HQ.out; omega, by rw [HP.out]; simp, by go_num, rfl⟩
        · have e2 : ((bt t i : Int) == 92) = false := by rw [beq_eq_false_iff_ne]; omega
          have HP := Lib.hid (HT.out.trans (if_neg (by omega)))
          have a1 : tx p ++ tx [t[i]] = tx (p ++ [t[i]]) := tx_append _ _
          clear h5 h6
          go_wp2_with fail
          go_roundg (gk - 1)
          case measure => have := HQ.out; omega
          case rel => exact ⟨i + 1, by have := HQ.out; omega, by rw [HP.out], by go_num, rfl⟩
    · have i1 : ¬(i : Int) < (t.length : Int) := by omega
      have hti : t.take i = t := List.take_of_length_le (by omega)
      rw [hti]
      obtain ⟨k1, k2, k3⟩ := esc_law t
      have hel := escV_len t
      have HK1 := Lib.hid k1
      have HK2 := Lib.hid k2
      have HK3 := Lib.hid (k3 (strV s ms))
      clear hti k1 k2 k3
      generalize escV t = p at *
      go_wp2_with fail
      (with_reducible refine (parse_yes p _ (by omega) HK1.out).mono ?_)
      rintro e w1 ⟨g, rfl, hT, m1, rfl⟩
      have HT := Lib.hid hT
      clear hT
      go_wp2_with fail
      (with_reducible refine (most_lit p 0 g _ (HT.out.grows (by repeat' first | exact Grows.refl _ | refine Grows.more ?_ _ | refine Grows.alloc ?_ _ | refine Grows.drewN ?_ _ | refine Grows.drew ?_)) (by omega) HK2.out).mono ?_)
      rintro e w1 ⟨rfl, rfl⟩
      go_wp2_with fail
      (with_reducible refine (expand_yes p s ms g _ (HT.out.grows (by repeat' first | exact Grows.refl _ | refine Grows.more ?_ _ | refine Grows.alloc ?_ _ | refine Grows.drewN ?_ _ | refine Grows.drew ?_)) (by omega) HM.out (by omega)).mono ?_)
      rw [HK3.out]
      rintro e w1 ⟨rfl, m2, rfl⟩
      go_wp2_with fail
      (with_reducible refine (does_any _).mono ?_)
      rintro e w1 ⟨rfl, m3, rfl⟩
      go_wp2_with fail
      go_ret
      exact ⟨rfl, (by repeat' first | exact Grows.refl _ | refine Grows.more ?_ _ | refine Grows.alloc ?_ _ | refine Grows.drewN ?_ _ | refine Grows.drew ?_)⟩
end Go.Proofs.Ytdgahppgpldnpaa
