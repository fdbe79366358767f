/-
  The law BreRow, walked.
-/
import Derived.Test.YtpignlkojlbhkaaDoorPk42
import Derived.Test.YtpignlkojlbhkaaDoorPk43
namespace Go.Proofs.YtpignlkojlbhkaaDoor
open Go.RowKit

attribute [local go_sem] tx_bt
set_option maxRecDepth 3000 in
theorem row_long (a b : List UInt8) (h : 300 < a.length ∨ a.length ≤ 300 ∧ 300 < b.length) (w : World) (hs : Sane w) : Calls Tryd.prog 7 #[.string (tx a), .string (tx b)] w fun e w' => e = .returned (.bool true) ∧ Grows w w' := by
  rcases h with h | ⟨h1, h2⟩
  · have c1 : (300 : Int) < (a.length : Int) := by omega
    go_enter Tryd.func7, Tryd.ntmps7
    go_wp2_with fail
    (with_reducible refine (does_any w hs).mono ?_)
    rintro e w9 ⟨rfl, k9⟩
    go_wp2_with fail
    go_ret
    exact ⟨rfl, k9⟩
  · have c1 : ¬(300 : Int) < (a.length : Int) := by omega
    have c2 : (300 : Int) < (b.length : Int) := by omega
    go_enter Tryd.func7, Tryd.ntmps7
    go_wp2_with fail
    (with_reducible refine (does_any w hs).mono ?_)
    rintro e w9 ⟨rfl, k9⟩
    go_wp2_with fail
    go_ret
    exact ⟨rfl, k9⟩
set_option maxRecDepth 3000 in
theorem row_bad (u : List UInt8) (c : UInt8) (b : List UInt8) (hu : u.length < 300) (hb : b.length ≤ 300) (hc : c = 36 ∨ c = 92) (w : World) (hs : Sane w) : Calls Tryd.prog 7 #[.string (tx (u ++ [c])), .string (tx b)] w fun e w' => e = .returned (.bool true) ∧ Grows w w' := by
  obtain ⟨n, hn⟩ : ∃ n, u.length = n := ⟨_, rfl⟩
  have hbt : bt (u ++ [c]) n = c.toNat := by rw [bt_append_right _ _ _ (by omega)]; simp [hn]
  have hl : (u ++ [c]).length = n + 1 := by simp [hn]
  have he : (tx (u ++ [c])).toList.isEmpty = false := by rw [ByteArray.toList_eq, tx_data]; simp
  generalize u ++ [c] = a at *
  have c1 : ¬(300 : Int) < (n : Int) + 1 := by omega
  have c2 : ¬(300 : Int) < (b.length : Int) := by omega
  rcases hc with rfl | rfl
  · have e1 : ((bt a n : Int) == 36) = true := by rw [hbt]; rfl
    clear hbt hn
    go_enter Tryd.func7, Tryd.ntmps7
    go_wp2_with fail
    (with_reducible refine (does_any w hs).mono ?_)
    rintro e w9 ⟨rfl, k9⟩
    go_wp2_with fail
    go_ret
    exact ⟨rfl, k9⟩
  · have e1 : ((bt a n : Int) == 36) = false := by rw [hbt]; rfl
    have e2 : ((bt a n : Int) == 92) = true := by rw [hbt]; rfl
    clear hbt hn
    go_enter Tryd.func7, Tryd.ntmps7
    go_wp2_with fail
    (with_reducible refine (does_any w hs).mono ?_)
    rintro e w9 ⟨rfl, k9⟩
    go_wp2_with fail
    go_ret
    exact ⟨rfl, k9⟩
set_option maxRecDepth 3000 in
set_option maxHeartbeats 4000000 in
theorem row_main (a b : List UInt8) (ha : a.length ≤ 300) (hb : b.length ≤ 300) (he : EndOk a) (w : World) (hs : Sane w) : Calls Tryd.prog 7 #[.string (tx a), .string (tx b)] w fun e w' => e = .returned (.bool true) ∧ Grows w w' := by
  have c1 : ¬(300 : Int) < (a.length : Int) := by omega
  have c2 : ¬(300 : Int) < (b.length : Int) := by omega
  have la : a.length ≤ 1000000 := by omega
  have lb : (120 :: b).length ≤ 1000000 := by simp; omega
  have lb2 : (120 :: b).length ≤ 301 := by simp; omega
  have lc : (a ++ 120 :: b).length ≤ 1000000 := by simp; omega
  have hcat1 : (⟨#[120]⟩ : ByteArray) ++ tx b = tx (120 :: b) := tx_append [120] b
  have hcat2 : tx a ++ tx (120 :: b) = tx (a ++ 120 :: b) := tx_append _ _
  by_cases hz : a = []
  · have e0 : (tx a).toList.isEmpty = true := by rw [ByteArray.toList_eq, tx_data, hz]; rfl
    clear hz
    go_enter Tryd.func7, Tryd.ntmps7
    go_wp2_with fail
    (with_reducible refine (bre_parse a w la hs).mono ?_)
    intro e w1 hp1
    cases hv1 : patV a with
    | none =>
      rw [hv1] at hp1
      obtain ⟨rfl, k1⟩ := hp1
      go_wp2_with fail
      (with_reducible refine (bre_parse (120 :: b) w1 lb (hs.grows k1)).mono ?_)
      intro e w2 hp2
      cases hv2 : patV (120 :: b) with
      | none =>
        rw [hv2] at hp2
        obtain ⟨rfl, k2⟩ := hp2
        clear hv1 hv2
        go_wp2_with fail
        (with_reducible refine (does_any _ (hs.grows (k1.trans k2))).mono ?_)
        rintro e w9 ⟨rfl, k9⟩
        go_wp2_with fail
        go_ret
        exact ⟨rfl, (k1.trans k2).trans k9⟩
      | some z =>
        rw [hv2] at hp2
        obtain ⟨g2, rfl, -, -, k2⟩ := hp2
        clear hv1 hv2
        go_wp2_with fail
        (with_reducible refine (does_any _ (hs.grows (k1.trans k2))).mono ?_)
        rintro e w9 ⟨rfl, k9⟩
        go_wp2_with fail
        go_ret
        exact ⟨rfl, (k1.trans k2).trans k9⟩
    | some y =>
      rw [hv1] at hp1
      obtain ⟨g1, rfl, R1, -, k1⟩ := hp1
      have HV1 := Lib.hid hv1
      clear hv1
      go_wp2_with fail
      (with_reducible refine (bre_parse (120 :: b) w1 lb (hs.grows k1)).mono ?_)
      intro e w2 hp2
      cases hv2 : patV (120 :: b) with
      | none =>
        rw [hv2] at hp2
        obtain ⟨rfl, k2⟩ := hp2
        clear hv2
        go_wp2_with fail
        (with_reducible refine (does_any _ (hs.grows (k1.trans k2))).mono ?_)
        rintro e w9 ⟨rfl, k9⟩
        go_wp2_with fail
        go_ret
        exact ⟨rfl, (k1.trans k2).trans k9⟩
      | some z =>
        rw [hv2] at hp2
        obtain ⟨g2, rfl, R2, -, k2⟩ := hp2
        have HV2 := Lib.hid hv2
        clear hv2
        have R1 := R1.grows k2
        have y9 := (patV_size HV1.out).2
        have z9 := (patV_size HV2.out).2
        have yg := patV_nine HV1.out
        have zg := patV_nine HV2.out
        have yl := Nat.le_trans (Fr.len_size y.1) (Nat.le_of_eq (patV_size HV1.out).1)
        have zl := Nat.le_trans (Fr.len_size z.1) (Nat.le_of_eq (patV_size HV2.out).1)
        go_wp2_with fail
        (with_reducible refine (refs_any R2).mono ?_)
        rintro e w9 ⟨rfl, hw⟩
        subst hw
        cases hr : z.2.refs with
        | true =>
          go_wp2_with fail
          (with_reducible refine (does_any _ (hs.grows (k1.trans k2))).mono ?_)
          rintro e w9 ⟨rfl, k9⟩
          go_wp2_with fail
          go_ret
          exact ⟨rfl, (k1.trans k2).trans k9⟩
        | false =>
          have HR := Lib.hid hr
          clear hr
          by_cases hp : y.2.parts + z.2.parts ≤ 200
          · have p1 : ¬(200 : Int) < (y.2.parts : Int) + (z.2.parts : Int) := by omega
            by_cases hg : y.2.groups + z.2.groups ≤ 9
            · have p2 : ¬(9 : Int) < (y.2.groups : Int) + (z.2.groups : Int) := by omega
              obtain ⟨x, hx, q1, q2, q3, q4⟩ := pat_row he HV1.out HV2.out HR.out hp hg
              have HV3 := Lib.hid hx
              have Q1 := Lib.hid q1
              have Q2 := Lib.hid q2
              have Q3 := Lib.hid q3
              have Q4 := Lib.hid q4
              clear hx q1 q2 q3 q4
              go_wp2_with fail
              (with_reducible refine (parts_any R1).mono ?_)
              rintro e w9 ⟨rfl, hw⟩
              subst hw
              go_wp2_with fail
              (with_reducible refine (parts_any R2).mono ?_)
              rintro e w9 ⟨rfl, hw⟩
              subst hw
              go_wp2_with fail
              (with_reducible refine (groups_any R1).mono ?_)
              rintro e w9 ⟨rfl, hw⟩
              subst hw
              go_wp2_with fail
              (with_reducible refine (groups_any R2).mono ?_)
              rintro e w9 ⟨rfl, hw⟩
              subst hw
              go_wp2_with fail
              (with_reducible refine (bre_yes lc HV3.out w2 ((hs.grows k1).grows k2) _ rfl).mono ?_)
              rintro e w3 ⟨g3, rfl, R3, -, k3⟩
              have R1 := R1.grows k3
              have R2 := R2.grows k3
              have i1 : ((x.1.len : Int) == (y.1.len : Int) + (z.1.len : Int)) = true := by rw [Q1.out]; simp
              have i2 : ((x.2.parts : Int) == (y.2.parts : Int) + (z.2.parts : Int)) = true := by rw [Q2.out]; simp
              have i3 : ((x.2.groups : Int) == (y.2.groups : Int) + (z.2.groups : Int)) = true := by rw [Q3.out]; simp
              go_wp2_with fail
              (with_reducible refine (tree_any R3 (by rw [(patV_size HV3.out).1]; have := (patV_size HV3.out).2; omega)).mono ?_)
              rintro e u3 ⟨C3, cap3, rfl, -, k4⟩
              have R1 := R1.grows k4
              have R2 := R2.grows k4
              have R3 := R3.grows k4
              go_wp2_with fail
              (with_reducible refine (tree_any R1 (by rw [(patV_size HV1.out).1]; have := (patV_size HV1.out).2; omega)).mono ?_)
              rintro e u1 ⟨C1, cap1, rfl, -, k5⟩
              have R1 := R1.grows k5
              have R2 := R2.grows k5
              have R3 := R3.grows k5
              go_wp2_with fail
              (with_reducible refine (tree_any R2 (by rw [(patV_size HV2.out).1]; have := (patV_size HV2.out).2; omega)).mono ?_)
              rintro e u2 ⟨C2, cap2, rfl, -, k6⟩
              have R1 := R1.grows k6
              have R2 := R2.grows k6
              have R3 := R3.grows k6
              go_wp2_with fail
              (with_reducible refine (parts_any R3).mono ?_)
              rintro e w9 ⟨rfl, hw⟩
              subst hw
              go_wp2_with fail
              (with_reducible refine (parts_any R1).mono ?_)
              rintro e w9 ⟨rfl, hw⟩
              subst hw
              go_wp2_with fail
              (with_reducible refine (parts_any R2).mono ?_)
              rintro e w9 ⟨rfl, hw⟩
              subst hw
              go_wp2_with fail
              (with_reducible refine (groups_any R3).mono ?_)
              rintro e w9 ⟨rfl, hw⟩
              subst hw
              go_wp2_with fail
              (with_reducible refine (groups_any R1).mono ?_)
              rintro e w9 ⟨rfl, hw⟩
              subst hw
              go_wp2_with fail
              (with_reducible refine (groups_any R2).mono ?_)
              rintro e w9 ⟨rfl, hw⟩
              subst hw
              go_wp2_with fail
              (with_reducible refine (refs_any R3).mono ?_)
              rw [Q4.out]
              rintro e w9 ⟨rfl, hw⟩
              subst hw
              go_wp2_with fail
              (with_reducible refine (refs_any R1).mono ?_)
              rintro e w9 ⟨rfl, hw⟩
              subst hw
              go_wp2_with fail
              (with_reducible refine (does_any _ (hs.grows (((((k1.trans k2).trans k3).trans k4).trans k5).trans k6))).mono ?_)
              rintro e w9 ⟨rfl, k9⟩
              go_wp2_with fail
              go_ret
              exact ⟨rfl, (((((k1.trans k2).trans k3).trans k4).trans k5).trans k6).trans k9⟩
            · have p2 : (9 : Int) < (y.2.groups : Int) + (z.2.groups : Int) := by omega
              go_wp2_with fail
              (with_reducible refine (parts_any R1).mono ?_)
              rintro e w9 ⟨rfl, hw⟩
              subst hw
              go_wp2_with fail
              (with_reducible refine (parts_any R2).mono ?_)
              rintro e w9 ⟨rfl, hw⟩
              subst hw
              go_wp2_with fail
              (with_reducible refine (groups_any R1).mono ?_)
              rintro e w9 ⟨rfl, hw⟩
              subst hw
              go_wp2_with fail
              (with_reducible refine (groups_any R2).mono ?_)
              rintro e w9 ⟨rfl, hw⟩
              subst hw
              go_wp2_with fail
              (with_reducible refine (does_any _ (hs.grows (k1.trans k2))).mono ?_)
              rintro e w9 ⟨rfl, k9⟩
              go_wp2_with fail
              go_ret
              exact ⟨rfl, (k1.trans k2).trans k9⟩
          · have p1 : (200 : Int) < (y.2.parts : Int) + (z.2.parts : Int) := by omega
            go_wp2_with fail
            (with_reducible refine (parts_any R1).mono ?_)
            rintro e w9 ⟨rfl, hw⟩
            subst hw
            go_wp2_with fail
            (with_reducible refine (parts_any R2).mono ?_)
            rintro e w9 ⟨rfl, hw⟩
            subst hw
            go_wp2_with fail
            (with_reducible refine (does_any _ (hs.grows (k1.trans k2))).mono ?_)
            rintro e w9 ⟨rfl, k9⟩
            go_wp2_with fail
            go_ret
            exact ⟨rfl, (k1.trans k2).trans k9⟩
  · have e0 : (tx a).toList.isEmpty = false := by rw [ByteArray.toList_eq, tx_data]; simpa using hz
    obtain ⟨u, c, hu⟩ : ∃ u c, a = u ++ [c] := ⟨a.dropLast, a.getLast hz, (List.dropLast_concat_getLast hz).symm⟩
    obtain ⟨n, hn⟩ : ∃ n, u.length = n := ⟨_, rfl⟩
    have hl : a.length = n + 1 := by rw [hu]; simp [hn]
    have hbt : bt a n = c.toNat := by rw [hu, bt_append_right _ _ _ (by omega)]; simp [hn]
    obtain ⟨h1, h2⟩ := he u c hu
    have e1 : ((bt a n : Int) == 36) = false := by
      rw [hbt, beq_eq_false_iff_ne]
      intro k
      exact h1 (UInt8.toNat_inj.1 (by have : c.toNat = 36 := by omega
                                      rw [this]; rfl))
    have e2 : ((bt a n : Int) == 92) = false := by
      rw [hbt, beq_eq_false_iff_ne]
      intro k
      exact h2 (UInt8.toNat_inj.1 (by have : c.toNat = 92 := by omega
                                      rw [this]; rfl))
    clear hz hu hn hbt h1 h2
    have c1 : ¬(300 : Int) < (n : Int) + 1 := by omega
    go_enter Tryd.func7, Tryd.ntmps7
    go_wp2_with fail
    (with_reducible refine (bre_parse a w la hs).mono ?_)
    intro e w1 hp1
    cases hv1 : patV a with
    | none =>
      rw [hv1] at hp1
      obtain ⟨rfl, k1⟩ := hp1
      go_wp2_with fail
      (with_reducible refine (bre_parse (120 :: b) w1 lb (hs.grows k1)).mono ?_)
      intro e w2 hp2
      cases hv2 : patV (120 :: b) with
      | none =>
        rw [hv2] at hp2
        obtain ⟨rfl, k2⟩ := hp2
        clear hv1 hv2
        go_wp2_with fail
        (with_reducible refine (does_any _ (hs.grows (k1.trans k2))).mono ?_)
        rintro e w9 ⟨rfl, k9⟩
        go_wp2_with fail
        go_ret
        exact ⟨rfl, (k1.trans k2).trans k9⟩
      | some z =>
        rw [hv2] at hp2
        obtain ⟨g2, rfl, -, -, k2⟩ := hp2
        clear hv1 hv2
        go_wp2_with fail
        (with_reducible refine (does_any _ (hs.grows (k1.trans k2))).mono ?_)
        rintro e w9 ⟨rfl, k9⟩
        go_wp2_with fail
        go_ret
        exact ⟨rfl, (k1.trans k2).trans k9⟩
    | some y =>
      rw [hv1] at hp1
      obtain ⟨g1, rfl, R1, -, k1⟩ := hp1
      have HV1 := Lib.hid hv1
      clear hv1
      go_wp2_with fail
      (with_reducible refine (bre_parse (120 :: b) w1 lb (hs.grows k1)).mono ?_)
      intro e w2 hp2
      cases hv2 : patV (120 :: b) with
      | none =>
        rw [hv2] at hp2
        obtain ⟨rfl, k2⟩ := hp2
        clear hv2
        go_wp2_with fail
        (with_reducible refine (does_any _ (hs.grows (k1.trans k2))).mono ?_)
        rintro e w9 ⟨rfl, k9⟩
        go_wp2_with fail
        go_ret
        exact ⟨rfl, (k1.trans k2).trans k9⟩
      | some z =>
        rw [hv2] at hp2
        obtain ⟨g2, rfl, R2, -, k2⟩ := hp2
        have HV2 := Lib.hid hv2
        clear hv2
        have R1 := R1.grows k2
        have y9 := (patV_size HV1.out).2
        have z9 := (patV_size HV2.out).2
        have yg := patV_nine HV1.out
        have zg := patV_nine HV2.out
        have yl := Nat.le_trans (Fr.len_size y.1) (Nat.le_of_eq (patV_size HV1.out).1)
        have zl := Nat.le_trans (Fr.len_size z.1) (Nat.le_of_eq (patV_size HV2.out).1)
        go_wp2_with fail
        (with_reducible refine (refs_any R2).mono ?_)
        rintro e w9 ⟨rfl, hw⟩
        subst hw
        cases hr : z.2.refs with
        | true =>
          go_wp2_with fail
          (with_reducible refine (does_any _ (hs.grows (k1.trans k2))).mono ?_)
          rintro e w9 ⟨rfl, k9⟩
          go_wp2_with fail
          go_ret
          exact ⟨rfl, (k1.trans k2).trans k9⟩
        | false =>
          have HR := Lib.hid hr
          clear hr
          by_cases hp : y.2.parts + z.2.parts ≤ 200
          · have p1 : ¬(200 : Int) < (y.2.parts : Int) + (z.2.parts : Int) := by omega
            by_cases hg : y.2.groups + z.2.groups ≤ 9
            · have p2 : ¬(9 : Int) < (y.2.groups : Int) + (z.2.groups : Int) := by omega
              obtain ⟨x, hx, q1, q2, q3, q4⟩ := pat_row he HV1.out HV2.out HR.out hp hg
              have HV3 := Lib.hid hx
              have Q1 := Lib.hid q1
              have Q2 := Lib.hid q2
              have Q3 := Lib.hid q3
              have Q4 := Lib.hid q4
              clear hx q1 q2 q3 q4
              go_wp2_with fail
              (with_reducible refine (parts_any R1).mono ?_)
              rintro e w9 ⟨rfl, hw⟩
              subst hw
              go_wp2_with fail
              (with_reducible refine (parts_any R2).mono ?_)
              rintro e w9 ⟨rfl, hw⟩
              subst hw
              go_wp2_with fail
              (with_reducible refine (groups_any R1).mono ?_)
              rintro e w9 ⟨rfl, hw⟩
              subst hw
              go_wp2_with fail
              (with_reducible refine (groups_any R2).mono ?_)
              rintro e w9 ⟨rfl, hw⟩
              subst hw
              go_wp2_with fail
              (with_reducible refine (bre_yes lc HV3.out w2 ((hs.grows k1).grows k2) _ rfl).mono ?_)
              rintro e w3 ⟨g3, rfl, R3, -, k3⟩
              have R1 := R1.grows k3
              have R2 := R2.grows k3
              have i1 : ((x.1.len : Int) == (y.1.len : Int) + (z.1.len : Int)) = true := by rw [Q1.out]; simp
              have i2 : ((x.2.parts : Int) == (y.2.parts : Int) + (z.2.parts : Int)) = true := by rw [Q2.out]; simp
              have i3 : ((x.2.groups : Int) == (y.2.groups : Int) + (z.2.groups : Int)) = true := by rw [Q3.out]; simp
              go_wp2_with fail
              (with_reducible refine (tree_any R3 (by rw [(patV_size HV3.out).1]; have := (patV_size HV3.out).2; omega)).mono ?_)
              rintro e u3 ⟨C3, cap3, rfl, -, k4⟩
              have R1 := R1.grows k4
              have R2 := R2.grows k4
              have R3 := R3.grows k4
              go_wp2_with fail
              (with_reducible refine (tree_any R1 (by rw [(patV_size HV1.out).1]; have := (patV_size HV1.out).2; omega)).mono ?_)
              rintro e u1 ⟨C1, cap1, rfl, -, k5⟩
              have R1 := R1.grows k5
              have R2 := R2.grows k5
              have R3 := R3.grows k5
              go_wp2_with fail
              (with_reducible refine (tree_any R2 (by rw [(patV_size HV2.out).1]; have := (patV_size HV2.out).2; omega)).mono ?_)
              rintro e u2 ⟨C2, cap2, rfl, -, k6⟩
              have R1 := R1.grows k6
              have R2 := R2.grows k6
              have R3 := R3.grows k6
              go_wp2_with fail
              (with_reducible refine (parts_any R3).mono ?_)
              rintro e w9 ⟨rfl, hw⟩
              subst hw
              go_wp2_with fail
              (with_reducible refine (parts_any R1).mono ?_)
              rintro e w9 ⟨rfl, hw⟩
              subst hw
              go_wp2_with fail
              (with_reducible refine (parts_any R2).mono ?_)
              rintro e w9 ⟨rfl, hw⟩
              subst hw
              go_wp2_with fail
              (with_reducible refine (groups_any R3).mono ?_)
              rintro e w9 ⟨rfl, hw⟩
              subst hw
              go_wp2_with fail
              (with_reducible refine (groups_any R1).mono ?_)
              rintro e w9 ⟨rfl, hw⟩
              subst hw
              go_wp2_with fail
              (with_reducible refine (groups_any R2).mono ?_)
              rintro e w9 ⟨rfl, hw⟩
              subst hw
              go_wp2_with fail
              (with_reducible refine (refs_any R3).mono ?_)
              rw [Q4.out]
              rintro e w9 ⟨rfl, hw⟩
              subst hw
              go_wp2_with fail
              (with_reducible refine (refs_any R1).mono ?_)
              rintro e w9 ⟨rfl, hw⟩
              subst hw
              go_wp2_with fail
              (with_reducible refine (does_any _ (hs.grows (((((k1.trans k2).trans k3).trans k4).trans k5).trans k6))).mono ?_)
              rintro e w9 ⟨rfl, k9⟩
              go_wp2_with fail
              go_ret
              exact ⟨rfl, (((((k1.trans k2).trans k3).trans k4).trans k5).trans k6).trans k9⟩
            · have p2 : (9 : Int) < (y.2.groups : Int) + (z.2.groups : Int) := by omega
              go_wp2_with fail
              (with_reducible refine (parts_any R1).mono ?_)
              rintro e w9 ⟨rfl, hw⟩
              subst hw
              go_wp2_with fail
              (with_reducible refine (parts_any R2).mono ?_)
              rintro e w9 ⟨rfl, hw⟩
              subst hw
              go_wp2_with fail
              (with_reducible refine (groups_any R1).mono ?_)
              rintro e w9 ⟨rfl, hw⟩
              subst hw
              go_wp2_with fail
              (with_reducible refine (groups_any R2).mono ?_)
              rintro e w9 ⟨rfl, hw⟩
              subst hw
              go_wp2_with fail
              (with_reducible refine (does_any _ (hs.grows (k1.trans k2))).mono ?_)
              rintro e w9 ⟨rfl, k9⟩
              go_wp2_with fail
              go_ret
              exact ⟨rfl, (k1.trans k2).trans k9⟩
          · have p1 : (200 : Int) < (y.2.parts : Int) + (z.2.parts : Int) := by omega
            go_wp2_with fail
            (with_reducible refine (parts_any R1).mono ?_)
            rintro e w9 ⟨rfl, hw⟩
            subst hw
            go_wp2_with fail
            (with_reducible refine (parts_any R2).mono ?_)
            rintro e w9 ⟨rfl, hw⟩
            subst hw
            go_wp2_with fail
            (with_reducible refine (does_any _ (hs.grows (k1.trans k2))).mono ?_)
            rintro e w9 ⟨rfl, k9⟩
            go_wp2_with fail
            go_ret
            exact ⟨rfl, (k1.trans k2).trans k9⟩
set_option maxRecDepth 3000 in
theorem bre_row (a b : List UInt8) (w : World) (hs : Sane w) : Calls Tryd.prog 7 #[.string (tx a), .string (tx b)] w fun e w' => e = .returned (.bool true) ∧ Grows w w' := by
  by_cases h1 : 300 < a.length
  · exact row_long a b (.inl h1) w hs
  by_cases h2 : 300 < b.length
  · exact row_long a b (.inr ⟨by omega, h2⟩) w hs
  by_cases h3 : EndOk a
  · exact row_main a b (by omega) (by omega) h3 w hs
  · obtain ⟨u, c, rfl, hc⟩ : ∃ u c, a = u ++ [c] ∧ (c = 36 ∨ c = 92) := by
      apply Classical.byContradiction
      intro k
      exact h3 fun u c e => ⟨fun x => k ⟨u, c, e, .inl x⟩, fun x => k ⟨u, c, e, .inr x⟩⟩
    exact row_bad u c b (by simp at h1; omega) (by omega) hc w hs
end Go.Proofs.YtpignlkojlbhkaaDoor
