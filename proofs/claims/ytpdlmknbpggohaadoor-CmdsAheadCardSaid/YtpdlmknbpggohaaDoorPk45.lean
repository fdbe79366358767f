/-
  Commands: the law CmdsAhead. (Printed by cmdahead.py.)
-/
import Derived.Test.YtpdlmknbpggohaaDoorPk44
import Derived.Test.YtpdlmknbpggohaaDoorPk20
namespace Go.Proofs.YtpdlmknbpggohaaDoor
open Go.RowKit

attribute [local go_sem] tx_list tx_bt tx_from
set_option maxRecDepth 3000 in
theorem run_convC (l : List UInt8) (w : World) (g n cap : Nat) (hn : n = l.length) (hc : ∀ j (hj : j < l.length), w.cell? ⟨g, j, none⟩ = some (.int .u8 (l[j].toNat : Int))) :
    (convert 47 9 (.slice (some ⟨g, 0, none⟩) n cap)).run Tryd.prog w = .ok (.string (tx l)) w := by
  subst hn
  have := run_convert_bytes_back (P := Tryd.prog) w 47 9 5 ⟨g, 0, none⟩ cap l Tryd.underlying47 Tryd.underlying5 Tryd.underlying9
  exact this (fun j hj => by rw [show (⟨g, 0, none⟩ : Addr).add j = ⟨g, j, none⟩ by unfold Addr.add; split <;> simp_all]; exact hc j hj)
set_option maxRecDepth 3000 in
theorem conv_digC (n : Nat) (W : World) : (convert 47 9 (.slice (some ⟨W.heap.size, 0, none⟩) 1 1)).run Tryd.prog (W.alloc (.cells #[.int .u8 (48 + (n : Int) % 10)] 5)) = .ok (.string (tx [UInt8.ofNat (48 + n % 10)])) (W.alloc (.cells #[.int .u8 (48 + (n : Int) % 10)] 5)) := by
  have h8 : ((UInt8.ofNat (48 + n % 10)).toNat : Int) = 48 + (n : Int) % 10 := by rw [digit_of _ (by omega)]; omega
  rw [← h8]
  exact run_convC [UInt8.ofNat (48 + n % 10)] _ _ _ _ rfl (fun j hj => by
        have : j = 0 := by simp at hj; omega
        subst this
        simp [go_sem])
set_option maxRecDepth 3000 in
theorem rep_blank (k : Nat) : ∀ c, c ∈ List.replicate k (32 : UInt8) → isBl c = true := fun c hc => by
  rw [(List.mem_replicate.1 hc).2]; rfl
set_option maxRecDepth 3000 in
theorem rep_push (k : Nat) : tx (List.replicate k 32) ++ ⟨#[32]⟩ = tx (List.replicate (k + 1) 32) := by
  have := tx_append (List.replicate k 32) [32]
  rw [List.replicate_succ']
  exact this
/-- Is nothing more asked of a line? -/
def headBl : List UInt8 → Bool
  | [] => true
  | c :: _ => decide (c.toNat = 32) || decide (c.toNat = 9)
def easyL (x : Cm) (l : List UInt8) : Bool := decide (0 < x.list.length) || decide (x.name = 0) || headBl l
set_option maxRecDepth 3000 in
theorem head_of {l : List UInt8} (h : l ≠ []) : ∃ d, bt l 0 = d ∧ headBl l = (decide (d = 32) || decide (d = 9)) := by
  cases l with
  | nil => exact absurd rfl h
  | cons c r => exact ⟨c.toNat, bt_zero c r, rfl⟩
set_option maxRecDepth 3000 in
theorem easy_no {x : Cm} {l : List UInt8} (h : easyL x l = false) : x.list = [] ∧ ∃ c r, l = c :: r ∧ isBl c = false := by
  unfold easyL at h
  rw [Bool.or_eq_false_iff, Bool.or_eq_false_iff, decide_eq_false_iff_not] at h
  refine ⟨List.eq_nil_of_length_eq_zero (by omega), ?_⟩
  cases l with
  | nil => cases h.2
  | cons c r =>
    have h2 := h.2
    simp only [headBl, Bool.or_eq_false_iff, decide_eq_false_iff_not] at h2
    exact ⟨c, r, rfl, by simp [isBl, h2.1, h2.2]⟩
set_option maxRecDepth 3000 in
theorem CvAt.rd {w : World} {A B : Option Addr} {n m ca cb : Nat} {x : Cm} (h : CvAt w (cmC (.slice A n ca) (.slice B m cb) x) x) : Rd w 4 A x.list.length (adrs x.list) := by
  obtain ⟨A', ca', B', cb', e, h1, _⟩ := h.ex
  have e0 := congrArg (fun c : Array Value => c[0]?) e
  simp at e0
  rw [e0.1]
  exact h1
set_option maxRecDepth 3000 in
set_option maxHeartbeats 16000000 in
theorem cmds_ahead_law (l : List UInt8) (b n : Nat) (hb : b < 256) (hn : n < 65536) (w : World) (hs : Sane w) :
    Calls Tryd.prog 4 #[.string (tx l), .int .u8 b, .int .u16 n] w fun e w' => e = .returned (.bool true) ∧ Grows w w' := by
  have HS := Lib.hid hs
  clear hs
  go_enter Tryd.func4, Tryd.ntmps4
  by_cases h1 : 100 < l.length
  · have h1i : (100 : Int) < (l.length : Int) := by omega
    go_wp2_with fail
    (with_reducible refine (lives_any _ (HS.out.grows (by repeat' first | exact Grows.refl _ | refine Grows.more ?_ _ | refine Grows.alloc ?_ _ | refine Grows.drewN ?_ _ | refine Grows.drew ?_))).mono ?_)
    rintro e w9 ⟨rfl, m9, rfl⟩
    go_wp2_with fail
    go_ret
    exact ⟨rfl, by repeat' first | exact Grows.refl _ | refine Grows.more ?_ _ | refine Grows.alloc ?_ _ | refine Grows.drewN ?_ _ | refine Grows.drew ?_⟩

  have h1n : decide (100 < l.length) = false := decide_eq_false h1
  have h1i : decide ((100 : Int) < (l.length : Int)) = false := decide_eq_false (by omega)
  have hl : l.length ≤ 100 := by omega
  obtain ⟨k, hk⟩ : ∃ k, b % 10 = k := ⟨_, rfl⟩
  have hk10 : k < 10 := by omega
  have hkI : (b : Int) % 10 = (k : Int) := by omega
  clear h1 hk
  go_wp2_with fail
  go_loopg [7, 8] k (fun q v7 v8 wr => ∃ i : Nat, q + i = k ∧ v7 = .string (tx (List.replicate i 32)) ∧ v8 = .int .i64 i ∧ wr = w)
  case atStart => exact ⟨0, by omega, rfl, rfl, rfl⟩
  case round =>
    obtain ⟨i, hq, rfl, rfl, hw⟩ := hrel
    have hw := hw.symm
    subst hw
    have HQ := Lib.hid hq
    have hik : i ≤ k := by omega
    clear hq
    by_cases ki : i < k
    · have hcat := rep_push i
      have hlen : ¬ 9223372036854775807 < (List.replicate i (32 : UInt8)).length + 1 := by simp; omega
      go_wp2_with fail
      go_roundg (gk - 1)
      case measure => have := HQ.out; omega
      case rel => exact ⟨i + 1, by have := HQ.out; omega, by first | rfl | rw [hcat], by simp, rfl⟩
    obtain rfl : i = k := by omega
    have kin : decide (i < i) = false := decide_eq_false ki
    clear ki HQ
    obtain ⟨B, hB⟩ : ∃ B, List.replicate i (32 : UInt8) = B := ⟨_, rfl⟩
    have hBl : B.length = i := by rw [← hB]; simp
    have hBb : ∀ c, c ∈ B → isBl c = true := hB ▸ rep_blank i
    rw [hB]
    have HBL := Lib.hid hBl
    have hB10 : B.length ≤ 10 := by omega
    have HBB := Lib.hid hBb
    have hcat : tx B ++ tx l = tx (B ++ l) := tx_append _ _
    have hsum : ¬ 9223372036854775807 < B.length + l.length := by omega
    have hBll : (B ++ l).length ≤ 1000 := by simp; omega
    have HCB := Lib.hid (cmd_blanks hBb l)
    clear hB hBl hBb
    cases hc : cmdL l with
    | error n0 =>
      have HE := Lib.hid (cmd_off hc (by omega))
      have HE2 := Lib.hid (cmd_off (HCB.out.trans hc) hBll)
      have hn0 := err_ne (cmd_errs hc)
      clear hc
      go_wp2_with fail
      (with_reducible refine (HE.out _ HS.out).mono ?_)
      rintro e w1 ⟨rfl, m1, rfl⟩
      unfold cmZ cm0 adr0
      go_wp2_with fail
      (with_reducible refine (HE2.out _ (HS.out.grows (by repeat' first | exact Grows.refl _ | refine Grows.more ?_ _ | refine Grows.alloc ?_ _ | refine Grows.drewN ?_ _ | refine Grows.drew ?_))).mono ?_)
      rintro e w1 ⟨rfl, m2, rfl⟩
      unfold cmZ cm0 adr0
      go_wp2_with fail
      (with_reducible refine (sameCmd_any (cvZ3 _) (cvZ3 _)).mono ?_)
      rintro e w2 ⟨rfl, m3, rfl⟩
      go_wp2_with fail
      (with_reducible refine (lives_any _ (HS.out.grows (by repeat' first | exact Grows.refl _ | refine Grows.more ?_ _ | refine Grows.alloc ?_ _ | refine Grows.drewN ?_ _ | refine Grows.drew ?_))).mono ?_)
      rintro e w9 ⟨rfl, m9, rfl⟩
      go_wp2_with fail
      go_ret
      exact ⟨rfl, by repeat' first | exact Grows.refl _ | refine Grows.more ?_ _ | refine Grows.alloc ?_ _ | refine Grows.drewN ?_ _ | refine Grows.drew ?_⟩

    | ok x =>
      have HE := Lib.hid (cmd_here hc (by omega))
      have HE2 := Lib.hid (cmd_here (HCB.out.trans hc) hBll)
      have HC := Lib.hid hc
      clear hc
      go_wp2_with fail
      (with_reducible refine (HE.out _ HS.out).mono ?_)
      rintro e w1 ⟨⟨A1, ca1, B1, cb1, rfl, hv1⟩, m1, rfl⟩
      have HV1 := Lib.hid hv1
      clear hv1
      go_wp2_with fail
      (with_reducible refine (HE2.out _ (HS.out.grows (by repeat' first | exact Grows.refl _ | refine Grows.more ?_ _ | refine Grows.alloc ?_ _ | refine Grows.drewN ?_ _ | refine Grows.drew ?_))).mono ?_)
      rintro e w1 ⟨⟨A2, ca2, B2, cb2, rfl, hv2⟩, m2, rfl⟩
      have HV2 := Lib.hid hv2
      clear hv2 HE HE2
      go_wp2_with fail
      (with_reducible refine (sameCmd_any (HV1.out.grows (by repeat' first | exact Grows.refl _ | refine Grows.more ?_ _ | refine Grows.alloc ?_ _ | refine Grows.drewN ?_ _ | refine Grows.drew ?_)) (HV2.out.grows (by repeat' first | exact Grows.refl _ | refine Grows.more ?_ _ | refine Grows.alloc ?_ _ | refine Grows.drewN ?_ _ | refine Grows.drew ?_))).mono ?_)
      rintro e w2 ⟨rfl, m3, rfl⟩
      obtain ⟨z, hz⟩ : ∃ z, easyL x l = z := ⟨_, rfl⟩
      have HZ := Lib.hid hz
      clear hz
      have hA : CmAt (more ((more ((more w m1).alloc (.cells (cmC (.slice A1 x.list.length ca1) (.slice B1 x.semi.length cb1) x) 30)) m2).alloc (.cells (cmC (.slice A2 x.list.length ca2) (.slice B2 x.semi.length cb2) x) 30)) m3) (w.heap.size + m1.1.size) (.slice A1 x.list.length ca1) (.slice B1 x.semi.length cb1) x := by
        show blk _ _ = _
        rw [blk_more _ _ _ (by simp [go_sem, InHeap]; omega), blk_alloc_past _ _ _ (by simp [go_sem, InHeap]; omega), blk_more _ _ _ (by simp [go_sem, InHeap]), blk_alloc_at _ _ _ _ (by simp)]
      have hGW : Grows w (more ((more ((more w m1).alloc (.cells (cmC (.slice A1 x.list.length ca1) (.slice B1 x.semi.length cb1) x) 30)) m2).alloc (.cells (cmC (.slice A2 x.list.length ca2) (.slice B2 x.semi.length cb2) x) 30)) m3) := by repeat' first | exact Grows.refl _ | refine Grows.more ?_ _ | refine Grows.alloc ?_ _ | refine Grows.drewN ?_ _ | refine Grows.drew ?_
      go_upto_region 12 with fail
      generalize (more ((more ((more w m1).alloc (.cells (cmC (.slice A1 x.list.length ca1) (.slice B1 x.semi.length cb1) x) 30)) m2).alloc (.cells (cmC (.slice A2 x.list.length ca2) (.slice B2 x.semi.length cb2) x) 30)) m3) = W at hA hGW ⊢
      have c0 : W.cell? ⟨w.heap.size + m1.1.size, 0, none⟩ = some (.slice A1 x.list.length ca1) := hA.cell 0
      have c2 : W.cell? ⟨w.heap.size + m1.1.size, 2, none⟩ = some (.int .u8 x.name) := hA.cell 2
      have c3 : W.cell? ⟨w.heap.size + m1.1.size, 3, none⟩ = some (.int .i64 x.dest.kind) := hA.cell 3
      have c4 : W.cell? ⟨w.heap.size + m1.1.size, 4, none⟩ = some (.int .i64 x.dest.n) := hA.cell 4
      have c5 : W.cell? ⟨w.heap.size + m1.1.size, 5, none⟩ = some (.string (tx x.dest.re)) := hA.cell 5
      have c6 : W.cell? ⟨w.heap.size + m1.1.size, 6, none⟩ = some (.int .i64 x.dest.add) := hA.cell 6
      have c8 : W.cell? ⟨w.heap.size + m1.1.size, 8, none⟩ = some (.string (tx x.re)) := hA.cell 8
      have c12 : W.cell? ⟨w.heap.size + m1.1.size, 12, none⟩ = some (.string (tx x.sub)) := hA.cell 12
      have c14 : W.cell? ⟨w.heap.size + m1.1.size, 14, none⟩ = some (.int .u8 x.print) := hA.cell 14
      have iA : InHeap (w.heap.size + m1.1.size) W := hA.inh
      have HGW := Lib.hid hGW
      clear hA hGW HV1 HV2
      go_cut [78] (fun v78 wx => v78 = .bool z ∧ wx = W)
      case first =>
        by_cases k1 : 0 < x.list.length
        · have k1i : (0 : Int) < (x.list.length : Int) := by omega
          obtain rfl : z = true := HZ.out.symm.trans (by unfold easyL; rw [decide_eq_true k1]; rfl)
          go_wp2_with fail
          go_meet
          exact ⟨rfl, rfl⟩
        have d1 : decide (0 < x.list.length) = false := decide_eq_false k1
        have d1i : decide ((0 : Int) < (x.list.length : Int)) = false := decide_eq_false (by omega)
        by_cases k2 : x.name = 0
        · have e2 : ((x.name : Int) == 0) = true := by rw [k2]; rfl
          obtain rfl : z = true := HZ.out.symm.trans (by unfold easyL; rw [d1, decide_eq_true k2]; rfl)
          clear k1 k2
          go_wp2_with fail
          go_meet
          exact ⟨rfl, rfl⟩
        have e2 : ((x.name : Int) == 0) = false := by rw [beq_eq_false_iff_ne]; omega
        have hz2 : z = headBl l := HZ.out.symm.trans (by unfold easyL; rw [d1, decide_eq_false k2]; rfl)
        have HZ2 := Lib.hid hz2
        clear k1 k2 hz2
        by_cases hl0 : l = []
        · obtain rfl : z = true := HZ2.out.trans (by rw [hl0]; rfl)
          have he : (tx l).toList.isEmpty = true := by rw [hl0]; exact empty_tx []
          have hle : l.isEmpty = true := by rw [hl0]; rfl
          clear hl0
          go_wp2_with fail
          go_meet
          exact ⟨rfl, rfl⟩
        have he : (tx l).toList.isEmpty = false := by rw [empty_tx]; simp [hl0]
        have hle : l.isEmpty = false := by simp [hl0]
        have hlt : 0 < l.length := List.length_pos_iff.2 hl0
        obtain ⟨d, hd, hd2⟩ : ∃ d, bt l 0 = d ∧ headBl l = (decide (d = 32) || decide (d = 9)) := head_of hl0
        have HZ3 := Lib.hid (HZ2.out.trans hd2)
        clear hd2 HZ2 hl0
        by_cases q1 : d = 32
        · have e32 : ((d : Int) == 32) = true := by rw [q1]; rfl
          obtain rfl : z = true := HZ3.out.trans (by rw [decide_eq_true q1]; rfl)
          clear q1
          go_wp2_with fail
          go_meet
          exact ⟨rfl, rfl⟩
        have e32 : ((d : Int) == 32) = false := by rw [beq_eq_false_iff_ne]; omega
        by_cases q2 : d = 9
        · have e9 : ((d : Int) == 9) = true := by rw [q2]; rfl
          obtain rfl : z = true := HZ3.out.trans (by rw [decide_eq_false q1, decide_eq_true q2]; rfl)
          clear q1 q2
          go_wp2_with fail
          go_meet
          exact ⟨rfl, rfl⟩
        have e9 : ((d : Int) == 9) = false := by rw [beq_eq_false_iff_ne]; omega
        obtain rfl : z = false := HZ3.out.trans (by rw [decide_eq_false q1, decide_eq_false q2]; rfl)
        clear q1 q2
        go_wp2_with fail
        go_meet
        exact ⟨rfl, rfl⟩
      case rest =>
        obtain ⟨rfl, hw⟩ := hcut
        have hw := hw.symm
        subst hw
        cases z with
        | true =>
          go_wp2_with fail
          (with_reducible refine (lives_any _ (HS.out.grows (HGW.out.trans (by repeat' first | exact Grows.refl _ | refine Grows.more ?_ _ | refine Grows.alloc ?_ _ | refine Grows.drewN ?_ _ | refine Grows.drew ?_)))).mono ?_)
          rintro e w9 ⟨rfl, m9, rfl⟩
          go_wp2_with fail
          go_ret
          exact ⟨rfl, HGW.out.trans (by repeat' first | exact Grows.refl _ | refine Grows.more ?_ _ | refine Grows.alloc ?_ _ | refine Grows.drewN ?_ _ | refine Grows.drew ?_)⟩
        | false =>
          obtain ⟨hx0, c, r, hcr, hcb⟩ := easy_no HZ.out
          have hdl : (decN n).length ≤ 5 := decN_len 5 n (by omega)
          have HX0 := Lib.hid hx0
          have HCR := Lib.hid hcr
          have HCBL := Lib.hid hcb
          clear hx0 hcr hcb
          go_wp2_with fail
          go_loopg [13, 14] n (fun q v13 v14 wr => ∃ (k : Nat) (s : List UInt8), q = k ∧ k ≤ n ∧ v13 = .string (tx s) ∧ v14 = .int .i64 k ∧ decN k ++ s = decN n ∧ s.length ≤ 5 ∧ Grows W wr)
          case atStart => exact ⟨n, [], rfl, Nat.le_refl _, rfl, rfl, by simp, by decide, Grows.refl _⟩
          case round =>
            obtain ⟨k, s, rfl, hk, rfl, rfl, hds, hsl, hg⟩ := hrel
            rcases Nat.eq_zero_or_pos gk with h0 | h0
            · subst h0
              rw [decN_zero, List.nil_append] at hds
              subst hds
              obtain ⟨m5, rfl⟩ := hg
              obtain ⟨ds, hde⟩ : ∃ d, decN n = d := ⟨_, rfl⟩
              rw [hde] at hdl hsl ⊢
              have hcat1 : tx ds ++ tx B = tx (ds ++ B) := tx_append _ _
              have hcat2 : tx (ds ++ B) ++ tx l = tx (ds ++ B ++ l) := tx_append _ _
              have hs1 : ¬ 9223372036854775807 < ds.length + B.length := by omega
              have hs2 : ¬ 9223372036854775807 < (ds ++ B).length + l.length := by simp; omega
              have hs2b : ¬ 9223372036854775807 < ds.length + B.length + l.length := by omega
              have hll : (ds ++ (B ++ l)).length ≤ 1000 := by simp; omega
              have hed0 := empty_tx ds
              by_cases hn0 : n = 0
              · have hd0 : ds = [] := by rw [← hde, hn0, decN_zero]
                have HE3 := Lib.hid (cmd_here (l := ds ++ (B ++ l)) (x := x) (by rw [hd0]; exact HCB.out.trans HC.out) hll)
                have hed : (tx ds).toList.isEmpty = true := by rw [hed0, hd0]; rfl
                have hed2 : ds.isEmpty = true := by rw [hd0]; rfl
                clear hd0 hde hn0 hed0
                go_wp2_with fail
                (with_reducible refine (HE3.out _ (HS.out.grows (HGW.out.trans (by repeat' first | exact Grows.refl _ | refine Grows.more ?_ _ | refine Grows.alloc ?_ _ | refine Grows.drewN ?_ _ | refine Grows.drew ?_)))).mono ?_)
                rintro e w1 ⟨⟨A3, ca3, B3, cb3, rfl, -⟩, m6, rfl⟩
                go_wp2_with fail
                (with_reducible refine (lives_any _ (HS.out.grows (HGW.out.trans (by repeat' first | exact Grows.refl _ | refine Grows.more ?_ _ | refine Grows.alloc ?_ _ | refine Grows.drewN ?_ _ | refine Grows.drew ?_)))).mono ?_)
                rintro e w9 ⟨rfl, m9, rfl⟩
                go_wp2_with fail
                go_ret
                exact ⟨rfl, HGW.out.trans (by repeat' first | exact Grows.refl _ | refine Grows.more ?_ _ | refine Grows.alloc ?_ _ | refine Grows.drewN ?_ _ | refine Grows.drew ?_)⟩
              · have hdne : ds ≠ [] := by
                  intro h
                  have := decN_val n
                  rw [hde, h] at this
                  exact hn0 this.symm
                have hdig : ∀ d, d ∈ ds → isDig d = true := hde ▸ decN_dig n
                have hcmd := cmd_digits (HCR.out ▸ HC.out) HX0.out HCBL.out hdig hdne (by omega) HBB.out (HCR.out ▸ (cmd_may HC.out).2)
                rw [show valD ds = n by rw [← hde]; exact decN_val n, ← HCR.out] at hcmd
                obtain ⟨y, hy⟩ : ∃ y, x.ranged [{ adr0 with kind := 3, n := n }] [] = y := ⟨_, rfl⟩
                rw [hy] at hcmd
                have y1 : y.list = [{ adr0 with kind := 3, n := n }] := by rw [← hy]; rfl
                have y1l : y.list.length = 1 := by rw [y1]; rfl
                have y2 : y.name = x.name := by rw [← hy]; rfl
                have y3 : y.re = x.re := by rw [← hy]; rfl
                have y4 : y.sub = x.sub := by rw [← hy]; rfl
                have y5 : y.dest = x.dest := by rw [← hy]; rfl
                have y6 : y.print = x.print := by rw [← hy]; rfl
                have HE3 := Lib.hid (cmd_here hcmd hll)
                have hed : (tx ds).toList.isEmpty = false := by rw [hed0]; simp [hdne]
                have hed2 : ds.isEmpty = false := by simp [hdne]
                have Y1 := Lib.hid y1
                clear hcmd hy hdig hdne hde hn0 y1 hed0
                go_wp2_with fail
                (with_reducible refine (HE3.out _ (HS.out.grows (HGW.out.trans (by repeat' first | exact Grows.refl _ | refine Grows.more ?_ _ | refine Grows.alloc ?_ _ | refine Grows.drewN ?_ _ | refine Grows.drew ?_)))).mono ?_)
                rintro e w1 ⟨⟨A3, ca3, B3, cb3, rfl, hv3⟩, m6, rfl⟩
                obtain ⟨b3, o3, hA3, e0, e1, e2, e3⟩ := adr_cells hv3.rd (i := 0) (a := { adr0 with kind := 3, n := n }) (by rw [Y1.out]; rfl)
                subst hA3
                simp only [Nat.zero_mul, Nat.add_zero] at e0 e1 e2 e3
                have i3 : InHeap b3 _ := World.block_lt_of_cell? _ _ e0
                clear hv3
                go_wp2_with fail
                (with_reducible refine (lives_any _ (HS.out.grows (HGW.out.trans (by repeat' first | exact Grows.refl _ | refine Grows.more ?_ _ | refine Grows.alloc ?_ _ | refine Grows.drewN ?_ _ | refine Grows.drew ?_)))).mono ?_)
                rintro e w9 ⟨rfl, m9, rfl⟩
                go_wp2_with fail
                go_ret
                exact ⟨rfl, HGW.out.trans (by repeat' first | exact Grows.refl _ | refine Grows.more ?_ _ | refine Grows.alloc ?_ _ | refine Grows.drewN ?_ _ | refine Grows.drew ?_)⟩
            · rw [decN_pos h0] at hds
              have HDS := Lib.hid hds
              have hc2 := conv_digC gk wr
              have hcat : tx [UInt8.ofNat (48 + gk % 10)] ++ tx s = tx (UInt8.ofNat (48 + gk % 10) :: s) := tx_append _ _
              have hd2 : (gk : Int) / 10 = ((gk / 10 : Nat) : Int) := by omega
              have HD2 := Lib.hid hd2
              have hlen5 : (UInt8.ofNat (48 + gk % 10) :: s).length ≤ 5 := by
                have := congrArg List.length hds
                simp at this ⊢
                omega
              have HL5 := Lib.hid hlen5
              clear hd2 hds hlen5
              go_wp2_with fail
              go_roundg (gk / 10)
              case measure => omega
              case rel => exact ⟨gk / 10, _, rfl, by omega, rfl, by rw [HD2.out], by rw [← HDS.out]; simp, HL5.out, hg.alloc _⟩
end Go.Proofs.YtpdlmknbpggohaaDoor
