/-
  Pieces: the law PiecesAsk.
-/
import Derived.Test.YtblcggmbaofflaaPiecesScr
namespace Go.Proofs.Ytblcggmbaofflaa
open Go.RowKit

/-- A table and a list that has its lines, while splices are made. -/
structure Both (w : World) (T : Tbl) (A : Option Addr) (cap : Nat) (d : List (List UInt8)) : Prop where
  tbl : T.ok w
  lines : T.L = d
  good : lcheckV d = 0
  rd : Rd w 1 A d.length (lv d)
  nil : A = none → d.length = 0 ∧ cap = 0
  le : d.length ≤ cap
  cap63 : cap ≤ 9223372036854775807
theorem Both.grows {w w' : World} {T : Tbl} {A : Option Addr} {cap : Nat} {d : List (List UInt8)} (h : Both w T A cap d) (hg : Grows w w') : Both w' T A cap d := ⟨h.1.grows hg, h.2, h.3, h.4.grows hg, h.5, h.6, h.7⟩
theorem Both.len {w : World} {T : Tbl} {A : Option Addr} {cap : Nat} {d : List (List UInt8)} (h : Both w T A cap d) : d.length ≤ 2000 := (lcheckV_good.1 h.good).1
theorem good_line {d : List (List UInt8)} (h : lcheckV d = 0) : ∀ s ∈ d, s.length ≤ 9223372036854775807 := fun s hs => by have := ((lcheckV_good.1 h).2 s hs).2; omega
theorem i64_bound (f : Int) (h : I64 f) : -9223372036854775808 ≤ f ∧ f ≤ 9223372036854775807 := h
theorem Grows.cell {w w' : World} {g i : Nat} {v : Value} (h : Grows w w') (hg : g < w.heap.size) (hc : w.cell? ⟨g, i, none⟩ = some v) : w'.cell? ⟨g, i, none⟩ = some v := (h.below.cell (p := ⟨g, i, none⟩) hg).trans hc
/-- A round's splice of the table and of the list. -/
theorem spl_code (d : List (List UInt8)) (a e : Int) (ins : List (List UInt8)) : (spliceV d a e ins).2 = 0 ∨ (spliceV d a e ins).2 = 2 ∨ (spliceV d a e ins).2 = 3 := by
  unfold spliceV; split
  · simp
  · split <;> simp

set_option maxRecDepth 100000 in
set_option maxHeartbeats 4000000 in
theorem piecesAsk_law (Ad : Option Addr) (cd : Nat) (d : List (List UInt8)) (A : Option Addr) (cap : Nat) (L : List Cut) (a0 a1 a2 : Int) (w : World) (hd : Came w Ad cd d) (hL : CameCuts w A cap L) (h0 : I64 a0) (h1 : I64 a1) (h2 : I64 a2) :
    Calls Try.prog 4 #[.slice Ad d.length cd, .slice A L.length cap, .agg #[.int .i64 a0, .int .i64 a1, .int .i64 a2]] w fun e w' => e = .returned (.bool true) ∧ Grows w w' := by
  have hdl := hd.len
  have hLl := hL.len
  have hck : ∀ W, Grows w W → Calls Try.prog 15 #[.slice Ad d.length cd] W fun e w' => e = .returned (.int .i64 (lcheckV d)) ∧ W = w' := fun W hW => refCheck_any Ad cd d W (hd.rd.grows hW) hdl hd.each
  go_enter Try.func4, Try.ntmps4
  go_wp2_with fail
  (with_reducible refine (great_any Ad cd d 500 20000 _ (hd.rd.grows ((Grows.refl _).alloc _)) hdl hd.each (by decide) (by decide) (by decide) (by decide)).mono ?_)
  rintro e w1 ⟨ga, rfl, hga, rfl⟩
  cases ga with
  | true =>
    go_wp2_with fail
    go_ret
    exact ⟨rfl, (Grows.refl _).alloc _⟩
  | false =>
    obtain ⟨hga1, hga2⟩ := hga rfl
    clear hga
    go_wp2_with fail
    (with_reducible refine (much_any A cap L _ (hL.grows ((Grows.refl _).alloc _))).mono ?_)
    rintro e w1 ⟨gm, rfl, hgm, rfl⟩
    cases gm with
    | true =>
      go_wp2_with fail
      go_ret
      exact ⟨rfl, (Grows.refl _).alloc _⟩
    | false =>
      obtain ⟨hm1, hm2, hm3⟩ := hgm rfl
      have HM := Lib.hid hm2
      clear hgm hm2
      by_cases hok : lcheckV d = 0
      · go_wp2_with fail
        (with_reducible refine (new_ptr Ad _ cd d _ rfl (hd.rd.grows ((Grows.refl _).alloc _)) (by omega) hd.nil hd.each hok).mono ?_)
        rintro e w1 ⟨T0, rfl, hT0, hTL0, ⟨m0, rfl⟩, -, -⟩
        have hB0 : Both (more (w.alloc (.cells #[.int .i64 a0, .int .i64 a1, .int .i64 a2] 44)) m0) T0 Ad cd d := ⟨hT0, hTL0, hok, hd.rd.grows (((Grows.refl _).alloc _).more _), hd.nil, hd.le, hd.cap63⟩
        have HL := Lib.hid hL
        have hc0 : (w.alloc (.cells #[.int .i64 a0, .int .i64 a1, .int .i64 a2] 44)).cell? ⟨w.heap.size, 0, none⟩ = some (.int .i64 a0) := by simp [go_sem]
        have hc1 : (w.alloc (.cells #[.int .i64 a0, .int .i64 a1, .int .i64 a2] 44)).cell? ⟨w.heap.size, 1, none⟩ = some (.int .i64 a1) := by simp [go_sem]
        have hc2 : (w.alloc (.cells #[.int .i64 a0, .int .i64 a1, .int .i64 a2] 44)).cell? ⟨w.heap.size, 2, none⟩ = some (.int .i64 a2) := by simp [go_sem]
        have hgX : Grows w (w.alloc (.cells #[.int .i64 a0, .int .i64 a1, .int .i64 a2] 44)) := (Grows.refl _).alloc _
        have hXs : w.heap.size < (w.alloc (.cells #[.int .i64 a0, .int .i64 a1, .int .i64 a2] 44)).heap.size := by simp
        have hLX := hL.grows hgX
        clear hT0 hTL0 hok hL hd hck
        go_wp2_with fail
        generalize w.alloc (.cells #[.int .i64 a0, .int .i64 a1, .int .i64 a2] 44) = X at *
        obtain ⟨g0, hg0⟩ : ∃ g0, g0 = w.heap.size := ⟨_, rfl⟩
        rw [← hg0] at hc0 hc1 hc2 hXs ⊢
        have HG0 := Lib.hid hg0
        have HGX := Lib.hid hgX
        have HL := Lib.hid hLX
        clear hg0 hgX hLX
        go_loopg [7, 8, 9, 10, 11, 12, 13] L.length (fun q t v i _ _ _ _ wr => ∃ (k : Nat) (T : Tbl) (Aw : Option Addr) (cw : Nat) (d' : List (List UInt8)), q + k = L.length ∧ i = .int .i64 k ∧ t = .pointer (some ⟨T.g, 0, none⟩) ∧ v = .slice Aw d'.length cw ∧ Both wr T Aw cw d' ∧ Grows X wr)
        case atStart => exact ⟨0, T0, Ad, cd, d, by omega, rfl, rfl, rfl, hB0, Grows.of _ _⟩
        case round =>
          obtain ⟨k, T, Aw, cw, d', hq, rfl, rfl, rfl, hB, hg⟩ := hrel
          have HQ := Lib.hid hq
          have HB := Lib.hid hB
          have HG := Lib.hid hg
          have hdl' := hB.len
          clear hq hB hB0 hg
          by_cases hk : k < L.length
          · have HLX := Lib.hid (HL.out.grows HG.out)
            obtain ⟨b, o, hAe, hb, e0, e1, e2⟩ := HLX.out.rd.cut k hk
            subst hAe
            have hb : InHeap b wr := hb
            have hc := HLX.out.each L[k] (List.getElem_mem hk)
            have hins := (HM.out L[k] (List.getElem_mem hk)).1
            obtain ⟨ha, hde, hcm⟩ := hc
            have HCM := Lib.hid hcm
            clear hcm
            go_upto_region 10 with fail
            go_region_held3 (fun w' => w'.cell? ⟨b, o + k * 3, none⟩ = some (.int .i64 L[k].at_) ∧ w'.cell? ⟨b, o + k * 3 + 1, none⟩ = some (.int .i64 L[k].del) ∧ w'.cell? ⟨b, o + k * 3 + 2, none⟩ = some (.slice L[k].A L[k].ins.length L[k].cap))
              (first | (simp [go_sem, hb, e0, e1, e2]; done))
              (first | (go_at_call 17; (with_reducible refine (splice_ptr T _ (HB.out.tbl.grows (by repeat' first | exact Grows.refl _ | refine Grows.more ?_ _ | refine Grows.alloc ?_ _ | refine Grows.drew ?_)) L[k].at_ L[k].del L[k].A _ L[k].cap L[k].ins rfl (HCM.out.rd.grows (by repeat' first | exact Grows.refl _ | refine Grows.more ?_ _ | refine Grows.alloc ?_ _ | refine Grows.drew ?_)) HCM.out.nil (by omega) HCM.out.each ha hde).mono ?_); rintro e w5 ⟨v, rfl, hno, hyes, m5, rfl⟩))
            rw [HB.out.lines] at *
            go_upto_region 11 with fail
            go_region_held3 (fun w' => w'.cell? ⟨b, o + k * 3, none⟩ = some (.int .i64 L[k].at_) ∧ w'.cell? ⟨b, o + k * 3 + 1, none⟩ = some (.int .i64 L[k].del) ∧ w'.cell? ⟨b, o + k * 3 + 2, none⟩ = some (.slice L[k].A L[k].ins.length L[k].cap))
              (first | (simp [go_sem, hb, e0, e1, e2]; done))
              (first | (go_at_call 18; (with_reducible refine (refSplice_any Aw L[k].A cw L[k].cap d' L[k].ins L[k].at_ L[k].del _ (HB.out.rd.grows (by repeat' first | exact Grows.refl _ | refine Grows.more ?_ _ | refine Grows.alloc ?_ _ | refine Grows.drew ?_)) HB.out.nil HB.out.le HB.out.cap63 (HCM.out.rd.grows (by repeat' first | exact Grows.refl _ | refine Grows.more ?_ _ | refine Grows.alloc ?_ _ | refine Grows.drew ?_)) HCM.out.nil (by omega) (by omega) HCM.out.each ha hde).mono ?_); rintro e w6 ⟨v6, rfl, hown, m6, rfl⟩))
            have hgW : Grows wr (more (more wr ⟨m5.bs, m5.n + 1⟩) m6) := ((Grows.refl _).more _).more _
            have HB6 := Lib.hid (HB.out.grows hgW)
            have HG6 := Lib.hid (HG.out.trans hgW)
            have hown' : (more (more wr ⟨m5.bs, m5.n + 1⟩) m6).ownsRow 0 9 1 v6 (spliceV d' L[k].at_ L[k].del L[k].ins).1.length (lv (spliceV d' L[k].at_ L[k].del L[k].ins).1) := own_le hown (Nat.zero_le _)
            have hyes' : (spliceV d' L[k].at_ L[k].del L[k].ins).2 = 0 → ∃ U : Tbl, v = .pointer (some ⟨U.g, 0, none⟩) ∧ U.ok (more (more wr ⟨m5.bs, m5.n + 1⟩) m6) ∧ U.L = (spliceV d' L[k].at_ L[k].del L[k].ins).1 := fun h => by
              obtain ⟨U, h1, h2, h3, _⟩ := hyes h
              exact ⟨U, h1, ((show U.ok (more wr m5) from h2).grows (show Grows (more wr m5) (more wr ⟨m5.bs, m5.n + 1⟩) from (Grows.refl (more wr m5)).drew)).grows (Grows.of _ m6), h3⟩
            clear hno hyes hown e0 e1 e2
            generalize more (more wr ⟨m5.bs, m5.n + 1⟩) m6 = W6 at hgW HB6 HG6 hown' hyes' ⊢
            have hgood := fun (hq : (spliceV d' L[k].at_ L[k].del L[k].ins).2 = 0) => (spliceV_good (at_ := L[k].at_) (del := L[k].del) (ins := L[k].ins) HB6.out.good hq).2.2.2.2.2
            generalize spliceV d' L[k].at_ L[k].del L[k].ins = x at hown' hyes' hgood ⊢
            obtain ⟨dx, cx⟩ := x
            simp only [] at hown' hyes' hgood
            by_cases hz : cx = 0
            · subst hz
              obtain ⟨U, rfl, hU, hUL⟩ := hyes' rfl
              obtain ⟨Ax, capx, rfl, hx1, hx2, hx3, hx4, -⟩ := own_row hown'
              have HBU : Hid (Both W6 U Ax capx dx) := Lib.hid ⟨hU, hUL, hgood rfl, hx3, hx4, hx1, hx2⟩
              clear hown' hyes' hgood hU hUL hx1 hx2 hx3 hx4
              go_wp2_with fail
              go_roundg (gk - 1)
              case measure => have := HQ.out; omega
              case rel => exact ⟨k + 1, U, Ax, capx, dx, by have := HQ.out; omega, by go_num, rfl, rfl, HBU.out, HG6.out⟩
            · have hz1 : (cx == 0) = false := by simpa using hz
              have hz2 : (cx != cx) = false := by simp
              obtain ⟨Ax, capx, rfl, -⟩ := own_row hown'
              clear hown' hyes' hgood hz
              go_wp2_with fail
              go_roundg (gk - 1)
              case measure => have := HQ.out; omega
              case rel => exact ⟨k + 1, T, Aw, cw, d', by have := HQ.out; omega, by go_num, rfl, rfl, HB6.out, HG6.out⟩
          · have h0b := i64_bound a0 h0
            have h1b := i64_bound a1 h1
            have h2b := i64_bound a2 h2
            have c0 := (Grows.cell HG.out hXs hc0)
            have c1 := (Grows.cell HG.out hXs hc1)
            have c2 := (Grows.cell HG.out hXs hc2)
            have hgi : InHeap g0 wr := Nat.lt_of_lt_of_le hXs HG.out.below.size
            go_wp2_with fail
            (with_reducible refine (line_ptr T _ HB.out.tbl a2 h2).mono ?_)
            rw [HB.out.lines]
            rintro e w1 ⟨rfl, m1, rfl⟩
            go_wp2_with fail
            (with_reducible refine (refLines_any Aw cw d' a2 a2 _ (HB.out.rd.grows (Grows.of _ _)) (by omega) h2 h2).mono ?_)
            rintro e w1 ⟨v, rfl, hown, m2, rfl⟩
            have hR1 : (rangeV d' a2 a2).length ≤ 1 := by unfold rangeV; simp; omega
            generalize rangeV d' a2 a2 = R at hown hR1 ⊢
            obtain ⟨A1, c1', rfl, hc1l, -, hA1, -⟩ := own_row hown
            clear hown
            have hgW : Grows wr (more (more wr m1) m2) := ((Grows.refl _).more _).more _
            have HB6 := Lib.hid (HB.out.grows hgW)
            have HG6 := Lib.hid (HG.out.trans hgW)
            have c0' := Grows.cell hgW hgi c0
            have c1' := Grows.cell hgW hgi c1
            have hgi' : InHeap g0 (more (more wr m1) m2) := Nat.lt_of_lt_of_le hgi hgW.below.size
            clear c0 c1 c2
            generalize more (more wr m1) m2 = W6 at hgW HB6 HG6 hA1 c0' c1' hgi' ⊢
            have hR : R = [] ∨ ∃ x, R = [x] := by
              match R, hR1 with
              | [], _ => exact .inl rfl
              | [x], _ => exact .inr ⟨x, rfl⟩
            clear hR1
            rcases hR with rfl | ⟨x, rfl⟩
            case' inl =>
              have hem : (tx ([] : List UInt8)).toList.isEmpty = true := by simp [ByteArray.toList_eq]
              clear hgW hA1 hc1l
              go_wp2_with fail
            case' inr =>
              obtain ⟨b1, o1, rfl, hb1, ec1⟩ := hA1.line 0 (by simp)
              simp only [List.getElem_cons_zero, Nat.add_zero] at ec1
              have hb1 : InHeap b1 W6 := hb1
              have hself := str_eq (a := tx x) rfl
              clear hgW hA1 hc1l
              go_wp2_with fail
            all_goals
              (with_reducible refine (lines_ptr T a0 a1 _ HB6.out.tbl h0 h1).mono ?_)
              rw [HB6.out.lines]
              rintro e w1 ⟨v3, rfl, hown3, m3, rfl⟩
              have hSl := rangeV_le d' a0 a1
              generalize hS : rangeV d' a0 a1 = S at hown3 hSl
              have HS := Lib.hid hS
              have HO3 := Lib.hid hown3
              obtain ⟨As, cs, rfl, hs1, hs2, hs3, -⟩ := own_row hown3
              clear hown3 hS
              go_wp2_with fail
              (with_reducible refine (refLines_any Aw cw d' a0 a1 _ (HB6.out.rd.grows (Grows.of _ _)) (by omega) h0 h1).mono ?_)
              rw [HS.out]
              rintro e w1 ⟨v4, rfl, hown4, m4, rfl⟩
              obtain ⟨A4, c4, rfl, -, -, hA4, -⟩ := own_row hown4
              clear hown4
              go_wp2_with fail
              (with_reducible refine (lawSame_at As A4 cs c4 _ _ S S _ (hs3.grows (Grows.of _ _)) hA4 (by omega) (by omega) rfl rfl).mono ?_)
              rw [sameL_self]
              rintro e w1 ⟨rfl, m5, rfl⟩
              have hgZ : Grows W6 (more (more (more W6 m3) m4) m5) := ((Grows.of _ _).more _).more _
              have hgZ2 : Grows (more W6 m3) (more (more (more W6 m3) m4) m5) := (Grows.of _ _).more _
              have HBZ := Lib.hid (HB6.out.grows hgZ)
              have HGZ := Lib.hid (HG6.out.trans hgZ)
              obtain ⟨gs, hgs1, hgs2⟩ := own_scr (own_grows HO3.out hgZ2)
              have hnu : ¬ T.uses gs := fun hu => by have := HB6.out.tbl.lt gs hu; omega
              have hnw : ∀ a, Aw = some a → 0 < d'.length → a.block ≠ gs := fun a ha hn => by have := HB6.out.rd.lt hn a ha; omega
              have hgX6 : X.heap.size ≤ gs := Nat.le_trans HG6.out.below.size hgs1
              have HNU := Lib.hid hnu
              have HNW := Lib.hid hnw
              have HGS := Lib.hid hgs2
              clear hs1 hs3 hA4 hgs1 hnu hnw hgs2 hgZ hgZ2 hgi' c0' c1'
              generalize more (more (more W6 m3) m4) m5 = Z at HBZ HGZ HGS ⊢
              go_wp2_with fail
              go_loopg [18] S.length (fun q i wx => ∃ kk : Nat, q + kk = S.length ∧ i = .int .i64 kk ∧ Scr gs Z wx)
              case atStart => exact ⟨0, by omega, rfl, .inl rfl⟩
              case round =>
                obtain ⟨kk, hq2, rfl, hs⟩ := hrel
                have HQ2 := Lib.hid hq2
                have HSC := Lib.hid hs
                clear hq2 hs
                by_cases h3 : kk < S.length
                · obtain ⟨hAs, hle⟩ := HGS.out (by omega)
                  subst hAs
                  obtain ⟨⟨u, hu⟩, hf, hi⟩ := HSC.out.cell (i := kk) (by omega)
                  go_wp2_with fail
                  go_roundg (gk - 1)
                  case measure => have := HQ2.out; omega
                  case rel => exact ⟨kk + 1, by have := HQ2.out; omega, by go_num, HSC.out.store (by omega)⟩
                · have hT9 := HSC.out.tbl HBZ.out.tbl HNU.out
                  have hW9 := HSC.out.rd HBZ.out.rd HNW.out
                  have hG9 := HSC.out.grows HGZ.out hgX6
                  go_wp2_with fail
                  (with_reducible refine (all_ptr T _ hT9).mono ?_)
                  rw [HBZ.out.lines]
                  rintro e w1 ⟨v7, rfl, hown7, m7, rfl⟩
                  obtain ⟨A7, c7, rfl, -, -, hA7, -⟩ := own_row hown7
                  clear hown7
                  go_wp2_with fail
                  (with_reducible refine (lawSame_at A7 Aw c7 cw _ _ d' d' _ hA7 (hW9.grows (Grows.of _ _)) (by omega) (by omega) rfl rfl).mono ?_)
                  rw [sameL_self]
                  rintro e w1 ⟨rfl, m8, rfl⟩
                  go_wp2_with fail
                  (with_reducible refine (does_any _).mono ?_)
                  rintro e w1 ⟨rfl, m9, rfl⟩
                  go_wp2_with fail
                  go_ret
                  exact ⟨rfl, (((HGX.out.trans hG9).more _).more _).more _⟩
      · go_wp2_with fail
        (with_reducible refine (new_no Ad cd d _ (hd.rd.grows ((Grows.refl _).alloc _)) (by omega) hd.each hok).mono ?_)
        rintro e w1 ⟨rfl, rfl⟩
        have hok' : (lcheckV d != 0) = true := by simpa using hok
        clear hok
        go_wp2_with fail
        (with_reducible refine (hck _ ((Grows.refl _).alloc _)).mono ?_)
        rintro e w1 ⟨rfl, rfl⟩
        go_wp2_with fail
        (with_reducible refine (does_any _).mono ?_)
        rintro e w1 ⟨rfl, m4, rfl⟩
        go_wp2_with fail
        go_ret
        exact ⟨rfl, ((Grows.refl _).alloc _).more _⟩
end Go.Proofs.Ytblcggmbaofflaa
