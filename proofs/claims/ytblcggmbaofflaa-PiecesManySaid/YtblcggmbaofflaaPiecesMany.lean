/-
  Pieces: the law PiecesMany.
-/
import Derived.Test.YtblcggmbaofflaaPiecesPtr
namespace Go.Proofs.Ytblcggmbaofflaa
open Go.RowKit

set_option maxRecDepth 100000 in
set_option maxHeartbeats 4000000 in
theorem piecesMany_law (Ad : Option Addr) (cd : Nat) (d : List (List UInt8)) (A : Option Addr) (cap : Nat) (L : List Cut) (w : World) (hd : Came w Ad cd d) (hL : CameCuts w A cap L) :
    Calls Try.prog 8 #[.slice Ad d.length cd, .slice A L.length cap] w fun e w' => e = .returned (.bool true) ∧ Grows w w' := by
  have hdl := hd.len
  have hLl := hL.len
  go_enter Try.func8, Try.ntmps8
  go_wp2_with fail
  (with_reducible refine (great_any Ad cd d 300 10000 _ hd.rd hdl hd.each (by decide) (by decide) (by decide) (by decide)).mono ?_)
  rintro e w1 ⟨ga, rfl, hga, rfl⟩
  cases ga with
  | true =>
    go_wp2_with fail
    go_ret
    exact ⟨rfl, Grows.refl _⟩
  | false =>
    obtain ⟨hga1, hga2⟩ := hga rfl
    clear hga
    go_wp2_with fail
    (with_reducible refine (much_any A cap L _ hL).mono ?_)
    rintro e w1 ⟨gm, rfl, hgm, rfl⟩
    cases gm with
    | true =>
      go_wp2_with fail
      go_ret
      exact ⟨rfl, Grows.refl _⟩
    | false =>
      obtain ⟨hm1, hm2, hm3⟩ := hgm rfl
      have HM := Lib.hid hm2
      clear hgm hm2
      by_cases hok : lcheckV d = 0
      · go_wp2_with fail
        (with_reducible refine (new_ptr Ad _ cd d _ rfl hd.rd (by omega) hd.nil hd.each hok).mono ?_)
        rintro e w1 ⟨T0, rfl, hT0, hTL0, hg0, -, -⟩
        have hTok0 : lcheckV T0.L = 0 := by rw [hTL0]; exact hok
        have HL := Lib.hid hL
        clear hTL0 hok hL hd
        go_wp2_with fail
        go_loopg [5, 6, 7, 8, 9, 10] (L.length + 1) (fun q t i _ _ _ _ wr => ∃ (k : Nat) (T : Tbl), q + k = L.length + 1 ∧ i = .int .i64 k ∧ t = .pointer (some ⟨T.g, 0, none⟩) ∧ T.ok wr ∧ lcheckV T.L = 0 ∧ Grows w wr)
        case atStart => exact ⟨0, T0, by omega, rfl, rfl, hT0, hTok0, hg0⟩
        case round =>
          obtain ⟨k, T, hq, rfl, rfl, hT, hTok, hg⟩ := hrel
          have HQ := Lib.hid hq
          have HT := Lib.hid hT
          have HTok := Lib.hid hTok
          obtain ⟨np, hnp⟩ : ∃ np, T.ps.length = np := ⟨_, rfl⟩
          obtain ⟨nl, hnl⟩ : ∃ nl, T.L.length = nl := ⟨_, rfl⟩
          have hl2 : nl ≤ 2000 := by rw [← hnl]; exact (lcheckV_good.1 hTok).1
          have hpl : np ≤ nl := by rw [← hnp, ← hnl]; exact hT.count
          have hiff : np = 0 ↔ nl = 0 := by rw [← hnp, ← hnl]; exact hT.none_iff
          have NP := Lib.hid hnp
          have NL := Lib.hid hnl
          clear hq hT hTok hT0 hTok0 hg0 hnp hnl
          by_cases hk : k ≤ L.length
          · obtain ⟨nm, hnm⟩ : ∃ nm, min 1 nl = nm := ⟨_, rfl⟩
            have NM := Lib.hid hnm
            by_cases h0 : nl = 0
            case' pos =>
              have h1 : np = 0 := hiff.2 h0
              have h3 : nm = 0 := by omega
              subst h0 h1 h3
              have hmI : min (1 : Int) 0 = 0 := by omega
            case' neg =>
              have h1 : 0 < np := by have := hiff.1; omega
              have h2 : 0 < nl := by omega
              have h3 : nm = 1 := by omega
              have d1 : ((np : Int) == 0) = false := by rw [beq_eq_false_iff_ne]; omega
              have d2 : ((nl : Int) == 0) = false := by rw [beq_eq_false_iff_ne]; omega
              subst h3
              clear h0
              have hmI : min (1 : Int) (nl : Int) = 1 := by omega
            all_goals
              clear hiff hnm
              go_wp2_with fail
              (with_reducible refine (pieces_ptr T _ HT.out).mono ?_)
              rw [NP.out]
              rintro e w1 ⟨rfl, rfl⟩
              go_wp2_with fail
              (with_reducible refine (len_ptr T _ HT.out).mono ?_)
              rw [NL.out]
              rintro e w1 ⟨rfl, rfl⟩
              go_wp2_with fail
              (with_reducible refine (len_ptr T _ HT.out).mono ?_)
              rw [NL.out]
              rintro e w1 ⟨rfl, rfl⟩
              go_wp2_with fail
              (with_reducible refine (compact_ptr T _ HT.out).mono ?_)
              rintro e w1 ⟨C, rfl, hC, hCL, ⟨mc, rfl⟩, -, hCp⟩
              rw [NL.out, NM.out] at hCp
              go_wp2_with fail
              (with_reducible refine (pieces_ptr C _ hC).mono ?_)
              rw [hCp]
              rintro e w1 ⟨rfl, rfl⟩
              go_wp2_with fail
              (with_reducible refine (len_ptr T _ (HT.out.grows (Grows.of _ _))).mono ?_)
              rw [NL.out]
              rintro e w1 ⟨rfl, rfl⟩
              go_wp2_with fail
              (with_reducible refine (all_ptr C _ hC).mono ?_)
              rw [hCL]
              rintro e w1 ⟨v1, rfl, hown1, m1, rfl⟩
              obtain ⟨A1, c1, rfl, -, -, hA1, -⟩ := own_row hown1
              clear hown1
              go_wp2_with fail
              (with_reducible refine (all_ptr T _ (HT.out.grows ((Grows.of _ _).more _))).mono ?_)
              rintro e w1 ⟨v2, rfl, hown2, m2, rfl⟩
              obtain ⟨A2, c2, rfl, -, -, hA2, -⟩ := own_row hown2
              clear hown2
              have hTl : T.L.length ≤ 9223372036854775807 := by rw [NL.out]; omega
              go_wp2_with fail
              (with_reducible refine (lawSame_at A1 A2 c1 c2 _ _ T.L T.L _ (hA1.grows (Grows.of _ _)) hA2 hTl hTl rfl rfl).mono ?_)
              rw [sameL_self]
              rintro e w1 ⟨rfl, m3, rfl⟩
              have hgX : Grows w (more (more (more (more wr mc) m1) m2) m3) := (((hg.more _).more _).more _).more _
              have hTX := HT.out.grows ((((Grows.of wr mc).more m1).more m2).more m3)
              have HLX := Lib.hid (HL.out.grows hgX)
              clear hA1 hA2 hC hCL hCp hmI
              generalize more (more (more (more wr mc) m1) m2) m3 = W at *
              have HTX := Lib.hid hTX
              clear hTX
              by_cases hkl : k = L.length
              · have hkb : ((k : Int) == (L.length : Int)) = true := by simp [hkl]
                go_wp2_with fail
                (with_reducible refine (does_any _).mono ?_)
                rintro e w1 ⟨rfl, m4, rfl⟩
                go_wp2_with fail
                go_ret
                exact ⟨rfl, hgX.more _⟩
              · have hkb : ((k : Int) == (L.length : Int)) = false := by rw [beq_eq_false_iff_ne]; omega
                have hklt : k < L.length := by omega
                obtain ⟨b, o, hAe, hb, e0, e1, e2⟩ := HLX.out.rd.cut k hklt
                subst hAe
                have hb : InHeap b W := hb
                have hc := HLX.out.each L[k] (List.getElem_mem hklt)
                have hins := (HM.out L[k] (List.getElem_mem hklt)).1
                obtain ⟨ha, hde, hcm⟩ := hc
                have HCM := Lib.hid hcm
                clear hcm
                go_upto_region 16 with fail
                go_region_held3 (fun w' => w'.cell? ⟨b, o + k * 3, none⟩ = some (.int .i64 L[k].at_) ∧ w'.cell? ⟨b, o + k * 3 + 1, none⟩ = some (.int .i64 L[k].del) ∧ w'.cell? ⟨b, o + k * 3 + 2, none⟩ = some (.slice L[k].A L[k].ins.length L[k].cap))
                  (first | (simp [go_sem, hb, e0, e1, e2]; done))
                  (first | (go_at_call 17; (with_reducible refine (splice_ptr T _ (HTX.out.grows (by repeat' first | exact Grows.refl _ | refine Grows.more ?_ _ | refine Grows.alloc ?_ _ | refine Grows.drew ?_)) L[k].at_ L[k].del L[k].A _ L[k].cap L[k].ins rfl (HCM.out.rd.grows (by repeat' first | exact Grows.refl _ | refine Grows.more ?_ _ | refine Grows.alloc ?_ _ | refine Grows.drew ?_)) HCM.out.nil (by omega) HCM.out.each ha hde).mono ?_); rintro e w5 ⟨v, rfl, hno, hyes, m5, rfl⟩))
                have HG := Lib.hid hgX
                clear hgX e0 e1 e2 hkb
                by_cases hz : (spliceV T.L L[k].at_ L[k].del L[k].ins).2 = 0
                · obtain ⟨U, rfl, hU, hUL, -, hUp⟩ := hyes hz
                  have hgood := (spliceV_good HTok.out hz).2.2.2.2.2
                  rw [← hUL] at hgood
                  rw [NP.out] at hUp
                  obtain ⟨nu, hnu⟩ : ∃ nu, U.ps.length = nu := ⟨_, rfl⟩
                  rw [hnu] at hUp
                  have NU := Lib.hid hnu
                  have HU : Hid (U.ok (more W m5)) := Lib.hid hU
                  have HGD := Lib.hid hgood
                  rw [hz]
                  clear hno hyes hz hUL hnu hU hgood
                  go_wp2_with fail
                  (with_reducible refine (pieces_ptr U _ HU.out).mono ?_)
                  rw [NU.out]
                  rintro e w1 ⟨rfl, rfl⟩
                  go_wp2_with fail
                  go_roundg (gk - 1)
                  case measure => have := HQ.out; omega
                  case rel => exact ⟨k + 1, U, by have := HQ.out; omega, by go_num, rfl, HU.out, HGD.out, HG.out.more _⟩
                · have hz' : ((spliceV T.L L[k].at_ L[k].del L[k].ins).2 != 0) = true := by simpa using hz
                  clear hno hyes hz
                  go_wp2_with fail
                  go_roundg (gk - 1)
                  case measure => have := HQ.out; omega
                  case rel => exact ⟨k + 1, T, by have := HQ.out; omega, by go_num, rfl, HTX.out.grows (Grows.of _ _), HTok.out, HG.out.more _⟩
          · go_wp2_with fail
            (with_reducible refine (does_any _).mono ?_)
            rintro e w1 ⟨rfl, m4, rfl⟩
            go_wp2_with fail
            go_ret
            exact ⟨rfl, hg.more _⟩
      · go_wp2_with fail
        (with_reducible refine (new_no Ad cd d _ hd.rd (by omega) hd.each hok).mono ?_)
        rintro e w1 ⟨rfl, rfl⟩
        go_wp2_with fail
        (with_reducible refine (does_any _).mono ?_)
        rintro e w1 ⟨rfl, m4, rfl⟩
        go_wp2_with fail
        go_ret
        exact ⟨rfl, Grows.of _ _⟩
end Go.Proofs.Ytblcggmbaofflaa
