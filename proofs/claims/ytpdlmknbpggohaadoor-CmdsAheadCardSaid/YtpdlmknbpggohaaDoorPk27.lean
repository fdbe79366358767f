/-
  Commands: what stands behind a substitution, walked. (Printed by cmdf.py.)
-/
import Derived.Test.YtpdlmknbpggohaaDoorPk26
namespace Go.Proofs.YtpdlmknbpggohaaDoor
open Go.RowKit

attribute [local go_sem] tx_bt tx_from
def flA (x : Cm) (n : Nat) : Bool := decide (n = 103) && !x.all
def flB (x : Cm) (c : UInt8) : Bool := isPln c && decide (x.print = 0)
def flC (said : Bool) (n : Nat) : Bool := decide (49 ≤ n) && decide (n ≤ 57) && !said
set_option maxRecDepth 3000 in
theorem flag_cons (k : Nat) (said : Bool) (x : Cm) (c : UInt8) (l : List UInt8) : flagL (k + 1) said x (c :: l) =
    if flA x c.toNat = true then flagL k said { x with all := true } l
    else if flB x c = true then flagL k said { x with print := c.toNat } l
    else if flC said c.toNat = true then flagL k true { x with nth := (thouL 0 (c :: l)).1 } (thouL 0 (c :: l)).2
    else .error 211 := by
  rw [flagL.eq_def]; simp only []
  congr 1
  · simp [flA]
  · congr 1
    · simp [flB]
    · congr 1
      simp [flC, and_assoc]
set_option maxRecDepth 3000 in
theorem indexByte_pln (c : UInt8) (w : World) (nI : Int) (hn : nI = (c.toNat : Int)) : Calls Tryd.prog 58 #[.string ⟨#[112, 108, 110]⟩, .int .u8 nI] w fun e w' => (∃ z : Int, e = .returned (.int .i64 z) ∧ decide (0 ≤ z) = isPln c) ∧ w' = w := by
  subst hn
  refine (Tryd.strings_IndexByte ⟨#[112, 108, 110]⟩ _ w).mono fun e w' h => ?_
  obtain ⟨rfl, rfl⟩ := h
  refine ⟨⟨_, rfl, ?_⟩, rfl⟩
  rw [code_byte]
  exact index_pln c
set_option maxRecDepth 3000 in
theorem thou_cons (n : Nat) (c : UInt8) (l : List UInt8) : thouL n (c :: l) = if isDig c = true ∧ n < 1000 then thouL (10 * n + (c.toNat - 48)) l else (n, c :: l) := by rw [thouL.eq_def]
set_option maxRecDepth 3000 in
theorem thou_less {c : UInt8} {l : List UInt8} (h1 : 49 ≤ c.toNat) (h2 : c.toNat ≤ 57) : (thouL 0 (c :: l)).2.length ≤ l.length := by
  rw [thou_cons, if_pos ⟨by unfold isDig; simp; omega, by decide⟩]
  exact thou_le l _
set_option maxRecDepth 3000 in
theorem thou_stop {n : Nat} {u : List UInt8} (h : ∀ d r, u = d :: r → ¬ (isDig d = true ∧ n < 1000)) : thouL n u = (n, u) := by
  cases u with
  | nil => rfl
  | cons d r => rw [thou_cons, if_neg (h d r rfl)]
set_option maxRecDepth 3000 in
theorem thou_step {n D : Nat} {c : UInt8} {l : List UInt8} (h : isDig c = true) (hn : n < 1000) (hD : c.toNat = 48 + D) : thouL n (c :: l) = thouL (10 * n + D) l := by
  rw [thou_cons, if_pos ⟨h, hn⟩, hD, show 48 + D - 48 = D by omega]
set_option maxRecDepth 3000 in
theorem flC_dig {said : Bool} {n : Nat} (h : flC said n = true) : 49 ≤ n ∧ n ≤ 57 := by
  unfold flC at h
  simp at h
  exact h.1
/-- How things stand at a flag. -/
structure FlAt (s : List UInt8) (w wr : World) (g : Nat) (lv sv : Value) (x0 : Cm) (i : Nat) (t : List UInt8) (said : Bool) (x : Cm) : Prop where
  at_ : At s i t
  cm : CmAt wr g lv sv x
  chg : Chg (fun b => b = g) w wr
  eq : ∃ k, t.length < k ∧ flagL (s.length + 1) false x0 s = flagL k said x t
section
variable {s t r : List UInt8} {w wr w2 : World} {g i : Nat} {lv sv : Value} {x0 x : Cm} {said : Bool} {c : UInt8}
set_option maxRecDepth 3000 in
theorem FlAt.fin (h : FlAt s w wr g lv sv x0 i [] said x) : flagL (s.length + 1) false x0 s = .ok x := by
  obtain ⟨k, h1, h2⟩ := h.eq
  cases k with
  | zero => omega
  | succ k => rw [h2]; rfl
set_option maxRecDepth 3000 in
theorem FlAt.a (h : FlAt s w wr g lv sv x0 i (c :: r) said x) (ha : flA x c.toNat = true) : FlAt s w (wr.setCell ⟨g, 10, none⟩ (.bool true)) g lv sv x0 (i + 1) r said { x with all := true } := by
  obtain ⟨k, h1, h2⟩ := h.eq
  refine ⟨h.at_.next, h.cm.put 10 _ rfl, h.chg.trans (chg_cell _ _ _ _), ?_⟩
  cases k with
  | zero => omega
  | succ k => exact ⟨k, by simp at h1; omega, by rw [h2, flag_cons, if_pos ha]⟩
set_option maxRecDepth 3000 in
theorem FlAt.b (h : FlAt s w wr g lv sv x0 i (c :: r) said x) (ha : flA x c.toNat = false) (hb : flB x c = true) : FlAt s w (wr.setCell ⟨g, 14, none⟩ (.int .u8 c.toNat)) g lv sv x0 (i + 1) r said { x with print := c.toNat } := by
  obtain ⟨k, h1, h2⟩ := h.eq
  refine ⟨h.at_.next, h.cm.put 14 _ rfl, h.chg.trans (chg_cell _ _ _ _), ?_⟩
  cases k with
  | zero => omega
  | succ k => exact ⟨k, by simp at h1; omega, by rw [h2, flag_cons, if_neg (by rw [ha]; decide), if_pos hb]⟩
set_option maxRecDepth 3000 in
theorem FlAt.cc (h : FlAt s w wr g lv sv x0 i (c :: r) said x) (ha : flA x c.toNat = false) (hb : flB x c = false) (hc : flC said c.toNat = true) {j n : Nat} {u : List UInt8} (hu : thouL 0 (c :: r) = (n, u)) (hj : At s j u) : FlAt s w (wr.setCell ⟨g, 11, none⟩ (.int .i64 n)) g lv sv x0 j u true { x with nth := n } := by
  obtain ⟨k, h1, h2⟩ := h.eq
  refine ⟨hj, h.cm.put 11 _ rfl, h.chg.trans (chg_cell _ _ _ _), ?_⟩
  cases k with
  | zero => omega
  | succ k =>
    refine ⟨k, ?_, by rw [h2, flag_cons, if_neg (by rw [ha]; decide), if_neg (by rw [hb]; decide), if_pos hc, hu]⟩
    unfold flC at hc
    simp at hc
    have := thou_less (l := r) hc.1.1 hc.1.2
    rw [hu] at this
    simp at h1 this
    omega
set_option maxRecDepth 3000 in
theorem FlAt.no (h : FlAt s w wr g lv sv x0 i (c :: r) said x) (ha : flA x c.toNat = false) (hb : flB x c = false) (hc : flC said c.toNat = false) : flagL (s.length + 1) false x0 s = .error 211 := by
  obtain ⟨k, h1, h2⟩ := h.eq
  cases k with
  | zero => omega
  | succ k => rw [h2, flag_cons, if_neg (by rw [ha]; decide), if_neg (by rw [hb]; decide), if_neg (by rw [hc]; decide)]
end
set_option maxRecDepth 3000 in
set_option maxHeartbeats 8000000 in
theorem flags_any {w : World} {g : Nat} {lv sv : Value} {x : Cm} (h : CmAt w g lv sv x) (hx : x.nth = 1) (s : List UInt8) (hl : s.length ≤ 1000) :
    Calls Tryd.prog 50 #[.pointer (some ⟨g, 0, none⟩), .string (tx s)] w (CmPost w g lv sv (flagL (s.length + 1) false x s)) := by
  have c11 : w.cell? ⟨g, 11, none⟩ = some (.int .i64 x.nth) := h.cell 11
  have hfr := h.free
  have h1 : CmAt (w.setCell ⟨g, 11, none⟩ (.int .i64 1)) g lv sv x := h.put 11 (.int .i64 1) (by simp [hx])
  have F0 := Lib.hid (FlAt.mk (At.start s) h1 (chg_cell _ _ _ _) ⟨_, Nat.lt_succ_self _, rfl⟩ : FlAt s w _ g lv sv x 0 s false x)
  clear h h1 hx
  go_enter Tryd.func50, Tryd.ntmps50
  go_wp2_with fail
  go_loopg [5, 6, 7, 8] s.length (fun q v5 v6 _ _ wr => ∃ (i : Nat) (t : List UInt8) (said : Bool) (y : Cm), q = t.length ∧ v5 = .bool said ∧ v6 = .int .i64 i ∧ FlAt s w wr g lv sv x i t said y)
  case atStart => exact ⟨0, s, false, x, rfl, rfl, rfl, F0.out⟩
  case round =>
    obtain ⟨i, t, said, y, hq, rfl, rfl, F⟩ := hrel
    obtain ⟨wx, hwx⟩ : ∃ z, z = wr := ⟨_, rfl⟩
    subst hwx
    have HQ := Lib.hid hq
    have hil := F.at_.le
    have hcm := F.cm
    have FF := Lib.hid F
    clear hq F F0 c11 hfr
    cases t with
    | nil =>
      have e1 : decide (i < s.length) = false := by rw [decide_eq_false_iff_not]; have := FF.out.at_.nil; omega
      clear hcm
      go_wp2_with fail
      go_ret
      refine ⟨FF.out.chg, ?_⟩
      rw [FF.out.fin]
      exact ⟨rfl, FF.out.cm⟩
    | cons c r =>
      have e1 : i < s.length := FF.out.at_.lt
      have hb := FF.out.at_.bt
      obtain ⟨n, hn⟩ : ∃ n, c.toNat = n := ⟨_, rfl⟩
      rw [hn] at hb
      have HN := Lib.hid hn
      have hn255 : n < 256 := by rw [← hn]; exact c.toNat_lt
      have c10 : wx.cell? ⟨g, 10, none⟩ = some (.bool y.all) := hcm.cell 10
      have c11 : wx.cell? ⟨g, 11, none⟩ = some (.int .i64 y.nth) := hcm.cell 11
      have c14 : wx.cell? ⟨g, 14, none⟩ = some (.int .u8 y.print) := hcm.cell 14
      have hfr := hcm.free
      obtain ⟨A, hA⟩ : ∃ b, flA y n = b := ⟨_, rfl⟩
      have HA := Lib.hid hA
      obtain ⟨P, hP⟩ : ∃ b, isPln c = b := ⟨_, rfl⟩
      have HP := Lib.hid hP
      obtain ⟨B, hB⟩ : ∃ b, flB y c = b := ⟨_, rfl⟩
      have HB := Lib.hid hB
      obtain ⟨C, hC⟩ : ∃ b, flC said n = b := ⟨_, rfl⟩
      have HC := Lib.hid hC
      clear hn hcm hA hB hC hP
      go_upto_region 7 with fail
      go_cut [19] (fun v19 wy => v19 = .bool A ∧ wy = wx)
      case first =>
        by_cases k : n = 103
        · have ek : ((n : Int) == 103) = true := by rw [k]; rfl
          have ht := HA.out
          rw [k] at ht
          have ht : (!y.all) = A := ht
          have HT := Lib.hid ht
          clear k ht
          go_wp2_with fail
          go_meet
          exact ⟨by rw [HT.out], rfl⟩
        · have ek : ((n : Int) == 103) = false := by rw [beq_eq_false_iff_ne]; omega
          obtain rfl : A = false := by rw [← HA.out]; simp [flA, k]
          go_wp2_with fail
          go_meet
          exact ⟨rfl, rfl⟩
      case rest =>
        obtain ⟨rfl, hw⟩ := hcut
        have hw := hw.symm
        subst hw
        cases A with
        | true =>
          go_wp2_with fail
          go_roundg (gk - 1)
          case measure => have := HQ.out; simp at this; omega
          case rel => exact ⟨i + 1, r, said, _, by have := HQ.out; simp at this; omega, rfl, by simp, FF.out.a (by rw [HN.out]; exact HA.out)⟩
        | false =>
          go_upto_region 10 with fail
          go_cut [34] (fun v34 wy => v34 = .bool B ∧ wy = wx)
          case first =>
            have hBB : B = (P && decide (y.print = 0)) := by rw [← HB.out, ← HP.out]; rfl
            have hpr : ((y.print : Int) == 0) = decide (y.print = 0) := by rw [Bool.eq_iff_iff]; simp
            obtain ⟨Z, hZ⟩ : ∃ b, decide (y.print = 0) = b := ⟨_, rfl⟩
            rw [hZ] at hBB hpr
            have HBB := Lib.hid hBB
            clear hBB hZ
            go_wp2_with fail
            (with_reducible refine (indexByte_pln c _ _ (by rw [HN.out])).mono ?_)
            rw [HP.out]
            rintro e w1 ⟨⟨z, rfl, hz⟩, hw⟩
            have hw := hw.symm
            subst hw
            cases P with
            | false =>
              go_wp2_with fail
              go_meet
              exact ⟨by rw [HBB.out]; rfl, rfl⟩
            | true =>
              go_wp2_with fail
              go_meet
              exact ⟨by rw [HBB.out]; rfl, rfl⟩
          case rest =>
            obtain ⟨rfl, hw⟩ := hcut
            have hw := hw.symm
            subst hw
            cases B with
            | true =>
              go_wp2_with fail
              go_roundg (gk - 1)
              case measure => have := HQ.out; simp at this; omega
              case rel => exact ⟨i + 1, r, said, { y with print := c.toNat }, by have := HQ.out; simp at this; omega, rfl, by simp, by have := FF.out.b (by rw [HN.out]; exact HA.out) HB.out; rw [HN.out] at this ⊢; exact this⟩
            | false =>
              go_upto_region 13 with fail
              go_cut [51] (fun v51 wy => v51 = .bool C ∧ wy = wx)
              case first =>
                obtain ⟨b1, h1⟩ : ∃ b, decide (49 ≤ n) = b := ⟨_, rfl⟩
                obtain ⟨b2, h2⟩ : ∃ b, decide (n ≤ 57) = b := ⟨_, rfl⟩
                have i1 : decide ((49 : Int) ≤ (n : Int)) = b1 := by rw [← h1, decide_eq_decide]; omega
                have i2 : decide ((n : Int) ≤ 57) = b2 := by rw [← h2, decide_eq_decide]; omega
                have hCC : C = (b1 && b2 && !said) := by rw [← HC.out, ← h1, ← h2]; rfl
                have HCC := Lib.hid hCC
                clear hCC
                cases b1 <;> cases b2 <;> cases said <;> (go_wp2_with fail; go_meet; exact ⟨by rw [HCC.out]; rfl, rfl⟩)
              case rest =>
                obtain ⟨rfl, hw⟩ := hcut
                have hw := hw.symm
                subst hw
                cases C with
                | false =>
                  have hR := Lib.hid (FF.out.no (by rw [HN.out]; exact HA.out) HB.out (by rw [HN.out]; exact HC.out))
                  go_wp2_with fail
                  go_ret
                  refine ⟨FF.out.chg, ?_⟩
                  rw [hR.out]
                  rfl
                | true =>
                  obtain ⟨go, hgo⟩ : ∃ z, z = gk := ⟨_, rfl⟩
                  subst hgo
                  have GQ := Lib.hid HQ.out
                  clear HQ
                  go_wp2_with fail
                  go_loopg [6, 8] (c :: r).length (fun q v6 v8 wr => ∃ (j m : Nat) (u : List UInt8), q = u.length ∧ v6 = .int .i64 j ∧ v8 = .int .i64 m ∧ At s j u ∧ thouL 0 (c :: r) = thouL m u ∧ m ≤ 9999 ∧ wr = wx)
                  case atStart => exact ⟨i, 0, c :: r, rfl, rfl, rfl, FF.out.at_, rfl, by omega, rfl⟩
                  case round =>
                    obtain ⟨j, m, u, hq2, rfl, rfl, hU, hT, hm, hw⟩ := hrel
                    have hw := hw.symm
                    subst hw
                    have HQ2 := Lib.hid hq2
                    have HU := Lib.hid hU
                    have HT := Lib.hid hT
                    have hjl := hU.le
                    clear hq2 hU hT
                    cases u with
                    | nil =>
                      have e2 : decide (j < s.length) = false := by rw [decide_eq_false_iff_not]; have := HU.out.nil; omega
                      have hth := thou_stop (u := []) (n := m) (fun d r h => by cases h)
                      have HTH := Lib.hid (HT.out.trans hth)
                      clear hth
                      go_wp2_with fail
                      go_roundg ([] : List UInt8).length
                      case measure => 
                        have h1 := flC_dig HC.out
                        have := thou_less (c := c) (l := r) (by rw [HN.out]; exact h1.1) (by rw [HN.out]; exact h1.2)
                        rw [HTH.out] at this
                        have := GQ.out
                        simp at *
                        omega
                      case rel => exact ⟨j, [], true, { y with nth := m }, rfl, rfl, rfl, FF.out.cc (by rw [HN.out]; exact HA.out) HB.out (by rw [HN.out]; exact HC.out) HTH.out HU.out⟩
                    | cons d r2 =>
                      have e2 : j < s.length := HU.out.lt
                      have hb2 := HU.out.bt
                      obtain ⟨p, hp⟩ : ∃ n, d.toNat = n := ⟨_, rfl⟩
                      rw [hp] at hb2
                      have HPP := Lib.hid hp
                      clear hp
                      have ezc : (0 : Nat) = 0 := rfl
                      by_cases k1 : p < 48
                      · have q1 : decide (48 ≤ p) = false := decide_eq_false (by omega)
                        have q1i : decide ((48 : Int) ≤ (p : Int)) = false := decide_eq_false (by omega)
                        have HK := Lib.hid k1
                        clear k1
                        have hth := thou_stop (u := d :: r2) (n := m) (fun d2 r3 h h2 => by cases h; have h3 := h2.1; unfold isDig at h3; rw [HPP.out] at h3; simp at h3; have := HK.out; omega)
                        have HTH := Lib.hid (HT.out.trans hth)
                        clear hth
                        go_wp2_with fail
                        go_roundg (d :: r2).length
                        case measure => 
                          have h1 := flC_dig HC.out
                          have := thou_less (c := c) (l := r) (by rw [HN.out]; exact h1.1) (by rw [HN.out]; exact h1.2)
                          rw [HTH.out] at this
                          have := GQ.out
                          simp at *
                          omega
                        case rel => exact ⟨j, d :: r2, true, { y with nth := m }, rfl, rfl, rfl, FF.out.cc (by rw [HN.out]; exact HA.out) HB.out (by rw [HN.out]; exact HC.out) HTH.out HU.out⟩
                      have q1 : decide (48 ≤ p) = true := decide_eq_true (by omega)
                      have q1i : decide ((48 : Int) ≤ (p : Int)) = true := decide_eq_true (by omega)
                      by_cases k2 : 57 < p
                      · have q2 : decide (p ≤ 57) = false := decide_eq_false (by omega)
                        have q2i : decide ((p : Int) ≤ 57) = false := decide_eq_false (by omega)
                        have HK := Lib.hid k2
                        clear k1 k2
                        have hth := thou_stop (u := d :: r2) (n := m) (fun d2 r3 h h2 => by cases h; have h3 := h2.1; unfold isDig at h3; rw [HPP.out] at h3; simp at h3; have := HK.out; omega)
                        have HTH := Lib.hid (HT.out.trans hth)
                        clear hth
                        go_wp2_with fail
                        go_roundg (d :: r2).length
                        case measure => 
                          have h1 := flC_dig HC.out
                          have := thou_less (c := c) (l := r) (by rw [HN.out]; exact h1.1) (by rw [HN.out]; exact h1.2)
                          rw [HTH.out] at this
                          have := GQ.out
                          simp at *
                          omega
                        case rel => exact ⟨j, d :: r2, true, { y with nth := m }, rfl, rfl, rfl, FF.out.cc (by rw [HN.out]; exact HA.out) HB.out (by rw [HN.out]; exact HC.out) HTH.out HU.out⟩
                      have q2 : decide (p ≤ 57) = true := decide_eq_true (by omega)
                      have q2i : decide ((p : Int) ≤ 57) = true := decide_eq_true (by omega)
                      by_cases k3 : m < 1000
                      · have q3 : decide (m < 1000) = true := decide_eq_true k3
                        have q3i : decide ((m : Int) < 1000) = true := decide_eq_true (by omega)
                        obtain ⟨D, hD⟩ : ∃ D : Nat, p = 48 + D := ⟨p - 48, by omega⟩
                        have hD9 : D ≤ 9 := by omega
                        have x3 : (p : Int) - 48 = (D : Int) := by omega
                        have hstep := thou_step (l := r2) (c := d) (n := m) (by unfold isDig; rw [HPP.out]; simp; omega) k3 (D := D) (by rw [HPP.out]; exact hD)
                        have HSTEP := Lib.hid hstep
                        have hp255 : p ≤ 57 := by omega
                        clear k1 k2 hD hstep
                        go_wp2_with fail
                        go_roundg (gk - 1)
                        case measure => have := HQ2.out; simp at this; omega
                        case rel => exact ⟨j + 1, 10 * m + D, r2, by have := HQ2.out; simp at this; omega, by simp, by simp, HU.out.next, HT.out.trans HSTEP.out, by omega, rfl⟩
                      · have q3 : decide (m < 1000) = false := decide_eq_false k3
                        have q3i : decide ((m : Int) < 1000) = false := decide_eq_false (by omega)
                        have HK := Lib.hid k3
                        clear k1 k2 k3
                        have hth := thou_stop (u := d :: r2) (n := m) (fun d2 r3 h h2 => HK.out h2.2)
                        have HTH := Lib.hid (HT.out.trans hth)
                        clear hth
                        go_wp2_with fail
                        go_roundg (d :: r2).length
                        case measure => 
                          have h1 := flC_dig HC.out
                          have := thou_less (c := c) (l := r) (by rw [HN.out]; exact h1.1) (by rw [HN.out]; exact h1.2)
                          rw [HTH.out] at this
                          have := GQ.out
                          simp at *
                          omega
                        case rel => exact ⟨j, d :: r2, true, { y with nth := m }, rfl, rfl, rfl, FF.out.cc (by rw [HN.out]; exact HA.out) HB.out (by rw [HN.out]; exact HC.out) HTH.out HU.out⟩
end Go.Proofs.YtpdlmknbpggohaaDoor
