/-
  The law BreItself, walked.
-/
import Derived.Test.YtpignlkojlbhkaaDoorPk42
namespace Go.Proofs.YtpignlkojlbhkaaDoor
open Go.RowKit

attribute [local go_sem] tx_bt
set_option maxRecDepth 3000 in
set_option maxHeartbeats 4000000 in
theorem bre_itself (l : List UInt8) (w : World) (hs : Sane w) : Calls Tryd.prog 6 #[.string (tx l)] w fun e w' => e = .returned (.bool true) ∧ Grows w w' := by
  by_cases hl : 150 < l.length
  · have c1 : (150 : Int) < (l.length : Int) := by omega
    go_enter Tryd.func6, Tryd.ntmps6
    go_wp2_with fail
    go_ret
    exact ⟨rfl, Grows.refl _⟩
  have c1 : ¬(150 : Int) < (l.length : Int) := by omega
  have hl150 : l.length ≤ 150 := by omega
  clear hl
  go_enter Tryd.func6, Tryd.ntmps6
  go_wp2_with fail
  go_loopg [3, 4] l.length (fun q v3 v4 wr => ∃ i : Nat, i ≤ l.length ∧ q + i = l.length ∧ v3 = .string (tx (itT (l.take i))) ∧ v4 = .int .i64 i ∧ wr = w)
  case atStart => exact ⟨0, by omega, by omega, rfl, rfl, rfl⟩
  case round =>
    obtain ⟨i, hi, hq, rfl, rfl, rfl⟩ := hrel
    have HQ := Lib.hid hq
    clear hq
    by_cases hlt : i < l.length
    · have i1 : (i : Int) < (l.length : Int) := by omega
      have hT : itT (l.take (i + 1)) = itT (l.take i) ++ pieceB l[i] := by
        rw [List.take_add_one, List.getElem?_eq_getElem hlt]
        exact itT_append _ _
      have hx : (tx l).extract i (i + 1) = tx [l[i]] := by
        rw [tx_mid]
        congr 1
        rw [Nat.add_sub_cancel_left, List.drop_eq_getElem_cons hlt]
        rfl
      have hbt : bt l i = l[i].toNat := bt_get l i hlt
      have hlen : (itT (l.take i)).length ≤ 450 := by
        have := itT_len (l.take i)
        rw [List.length_take] at this
        omega
      generalize hc : l[i] = c at *
      generalize ht1 : itT (l.take i) = t1 at *
      generalize ht2 : itT (l.take (i + 1)) = t2 at *
      have HT2 := Lib.hid ht2
      clear ht1 ht2 hc
      cases hsp : specialB c.toNat with
      | true =>
        have k1 : tx t1 ++ (⟨#[91]⟩ : ByteArray) = tx (t1 ++ [91]) := tx_append _ [91]
        have k2 : tx (t1 ++ [91]) ++ tx [c] = tx (t1 ++ [91, c]) := by rw [tx_append]; simp
        have k3 : tx (t1 ++ [91, c]) ++ (⟨#[93]⟩ : ByteArray) = tx t2 := by
          rw [show (⟨#[93]⟩ : ByteArray) = tx [93] from rfl, tx_append, hT]
          simp [pieceB, hsp]
        have hsp2 : specialB (bt l i) = true := by rw [hbt]; exact hsp
        have HSP := Lib.hid hsp2
        have l2 : (t1 ++ [91]).length ≤ 451 := by simp; omega
        have l3 : (t1 ++ [91, c]).length ≤ 452 := by simp; omega
        clear hsp hsp2 hT hbt
        go_wp2_with fail
        (with_reducible refine (specialB_any (bt l i) _).mono ?_)
        rw [HSP.out]
        rintro e w1 ⟨rfl, hw⟩
        subst hw
        go_wp2_with fail
        go_roundg (gk - 1)
        case measure => have := HQ.out; omega
        case rel => exact ⟨i + 1, by omega, by have := HQ.out; omega, by rw [HT2.out], by go_num, rfl⟩
      | false =>
        have k1 : tx t1 ++ (⟨#[92]⟩ : ByteArray) = tx (t1 ++ [92]) := tx_append _ [92]
        have k2 : tx (t1 ++ [92]) ++ tx [c] = tx t2 := by
          rw [tx_append, hT]
          simp [pieceB, hsp]
        have hsp2 : specialB (bt l i) = false := by rw [hbt]; exact hsp
        have HSP := Lib.hid hsp2
        have l2 : (t1 ++ [92]).length ≤ 451 := by simp; omega
        clear hsp hsp2 hT hbt
        go_wp2_with fail
        (with_reducible refine (specialB_any (bt l i) _).mono ?_)
        rw [HSP.out]
        rintro e w1 ⟨rfl, hw⟩
        subst hw
        go_wp2_with fail
        go_roundg (gk - 1)
        case measure => have := HQ.out; omega
        case rel => exact ⟨i + 1, by omega, by have := HQ.out; omega, by rw [HT2.out], by go_num, rfl⟩
    · have i1 : ¬(i : Int) < (l.length : Int) := by omega
      have hil : i = l.length := by omega
      have htk : l.take i = l := by rw [hil]; simp
      rw [htk]
      clear htk hil hlt hi HQ
      have lt := itT_len l
      obtain ⟨y, hy, hf, hp⟩ := pat_it l (by omega)
      have HY := Lib.hid hy
      have HF := Lib.hid hf
      have hlen : y.1.len = l.length := hf.len
      have lT : (itT l).length ≤ 1000000 := by omega
      clear lt hy hf
      go_wp2_with fail
      (with_reducible refine (bre_yes lT HY.out wr hs _ rfl).mono ?_)
      rintro e w1 ⟨g, rfl, R, -, k1⟩
      go_wp2_with fail
      (with_reducible refine (tree_any R (by rw [(patV_size HY.out).1]; have := (patV_size HY.out).2; omega)).mono ?_)
      rintro e w2 ⟨A, cap, rfl, hA, k2⟩
      have R := R.grows k2
      go_wp2_with fail
      (with_reducible refine (parts_any R).mono ?_)
      rintro e w9 ⟨rfl, hw⟩
      subst hw
      have HA := Lib.hid hA
      clear hA R
      go_wp2_with fail
      go_loopg [8] l.length (fun q v8 wx => ∃ i : Nat, i ≤ l.length ∧ q + i = l.length ∧ v8 = .int .i64 i ∧ Grows w2 wx)
      case atStart => exact ⟨0, by omega, by omega, rfl, Grows.refl _⟩
      case round =>
        obtain ⟨i, hi, hq, rfl, hg⟩ := hrel
        obtain ⟨wx, hwx⟩ : ∃ z, z = wr := ⟨_, rfl⟩
        subst hwx
        have HQ := Lib.hid hq
        have HG := Lib.hid hg
        clear hq
        by_cases hlt : i < l.length
        · have i1 : (i : Int) < (l.length : Int) := by omega
          have hbt : bt l i = l[i].toNat := bt_get l i hlt
          have hb1 := bt_lt l i
          obtain ⟨a, x, rest, e1, e2, e3⟩ := HF.out.at_ i hlt
          rw [← hbt] at e3
          have hA := HA.out.grows hg
          obtain ⟨b, o, rfl, ib⟩ := hA.some (by omega)
          obtain ⟨K, ck, -, n0⟩ := hA.node e1 rfl
          rw [e2] at n0
          have d0 : wx.cell? ⟨b, o + i * 262, none⟩ = some (.int .i64 (x.kind : Nat)) := n0 0 _ (ndA_0 _ _ _ _ _ _ _)
          have d1 : wx.cell? ⟨b, o + i * 262 + 1, none⟩ = some (.int .u8 (x.byte : Nat)) := n0 1 _ (ndA_1 _ _ _ _ _ _ _)
          have d2 : wx.cell? ⟨b, o + i * 262 + 2 + bt l i, none⟩ = some (.bool (x.set (bt l i))) := by
            have := n0 (2 + bt l i) _ (ndA_set _ _ _ _ _ _ _ (bt l i) hb1)
            rwa [← Nat.add_assoc, ← Nat.add_assoc] at this
          have hb2 : (bt l i : Int) < 256 := by omega
          clear n0 e1 e2 hbt hg hA
          cases hsp : specialB (bt l i) with
          | true =>
            unfold ItN at e3
            rw [if_pos hsp] at e3
            rw [e3.1] at d0
            rw [e3.2] at d2
            have HSP := Lib.hid hsp
            have hspec : ∀ W, Calls Tryd.prog 19 #[.int .u8 (bt l i)] W fun e w' => e = .returned (.bool true) ∧ w' = W := fun W => (specialB_any (bt l i) W).mono fun e w' h => ⟨by rw [h.1, HSP.out], h.2.symm⟩
            clear e3 hsp d1
            go_upto_region 17 with fail
            have D0 := d0
            go_quiet ((go_at_call 19; exact Calls.quiet_of_same (hspec _)))
            go_wp2_with fail
            go_roundg (gk - 1)
            case measure => have := HQ.out; omega
            case rel => exact ⟨i + 1, by omega, by have := HQ.out; omega, by go_num, by first | exact HG.out.drewN _ | exact HG.out⟩
          | false =>
            unfold ItN at e3
            rw [if_neg (by rw [hsp]; decide)] at e3
            rw [e3.1] at d0
            rw [e3.2] at d1
            have HSP := Lib.hid hsp
            have hspec : ∀ W, Calls Tryd.prog 19 #[.int .u8 (bt l i)] W fun e w' => e = .returned (.bool false) ∧ w' = W := fun W => (specialB_any (bt l i) W).mono fun e w' h => ⟨by rw [h.1, HSP.out], h.2.symm⟩
            clear e3 hsp d2
            go_upto_region 17 with fail
            go_quiet ((go_at_call 19; exact Calls.quiet_of_same (hspec _)))
            go_wp2_with fail
            go_roundg (gk - 1)
            case measure => have := HQ.out; omega
            case rel => exact ⟨i + 1, by omega, by have := HQ.out; omega, by go_num, by first | exact HG.out.drewN _ | exact HG.out⟩
        · have i1 : ¬(i : Int) < (l.length : Int) := by omega
          go_wp2_with fail
          (with_reducible refine (does_any _ (((hs.grows k1).grows k2).grows HG.out)).mono ?_)
          rintro e w9 ⟨rfl, k9⟩
          go_wp2_with fail
          go_ret
          exact ⟨rfl, ((k1.trans k2).trans HG.out).trans k9⟩
end Go.Proofs.YtpignlkojlbhkaaDoor
