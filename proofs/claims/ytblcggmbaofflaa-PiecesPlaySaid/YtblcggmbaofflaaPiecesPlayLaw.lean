/-
  Pieces: the law PiecesPlay.
-/
import Derived.Test.YtblcggmbaofflaaPiecesAskLaw
import Derived.Test.YtblcggmbaofflaaRefJoin
namespace Go.Proofs.Ytblcggmbaofflaa
open Go.RowKit

theorem joinL_small {d : List (List UInt8)} (h : lcheckV d = 0) : (joinL d).length ≤ 3000000 := by
  have hg := lcheckV_good.1 h
  have key : ∀ l : List (List UInt8), (∀ s ∈ l, s.length ≤ 1000) → (joinL l).length ≤ l.length * 1001 := by
    intro l
    induction l with
    | nil => intro _; simp [joinL]
    | cons a l ih =>
      intro hl
      have := ih (fun s hs => hl s (by simp [hs]))
      have := hl a (by simp)
      simp [joinL]; omega
  have := key d (fun s hs => (hg.2 s hs).2)
  omega
theorem grows_renum (w : World) (m : More) (n : Nat) : Grows (more w m) (more w ⟨m.bs, n⟩) := ⟨⟨#[], n⟩, by simp [more]⟩
/-- A twin's writes: each cell of it may be written. -/
theorem twin_blk {w : World} {base g cap : Nat} {d : List (List UInt8)} (h : w.ownsRow base 9 1 (.slice (some ⟨g, 0, none⟩) (d.length + 1) cap) (d.length + 1) (lv (d ++ [[42]]))) : d.length < (blk w g).size ∧ base ≤ g ∧ g < w.heap.size := by
  have := own_blk h
  omega

set_option maxRecDepth 100000 in
set_option maxHeartbeats 4000000 in
theorem piecesPlay_law (Ad : Option Addr) (cd : Nat) (d : List (List UInt8)) (A : Option Addr) (cap : Nat) (L : List Cut) (w : World) (hd : Came w Ad cd d) (hL : CameCuts w A cap L) :
    Calls Try.prog 3 #[.slice Ad d.length cd, .slice A L.length cap] w fun e w' => e = .returned (.bool true) ∧ Grows w w' := by
  have hdl := hd.len
  have hLl := hL.len
  go_enter Try.func3, Try.ntmps3
  go_wp2_with fail
  (with_reducible refine (great_any Ad cd d 2100 20000 _ hd.rd hdl hd.each (by decide) (by decide) (by decide) (by decide)).mono ?_)
  rintro e w1 ⟨ga, rfl, hga, rfl⟩
  cases ga with
  | true =>
    go_wp2_with fail
    go_ret
    exact ⟨rfl, Grows.refl _⟩
  | false =>
    obtain ⟨hga1, hga2⟩ := hga rfl
    clear hga
    go_wp2_with fail
    (with_reducible refine (much_any A cap L _ hL).mono ?_)
    rintro e w1 ⟨gm, rfl, hgm, rfl⟩
    cases gm with
    | true =>
      go_wp2_with fail
      go_ret
      exact ⟨rfl, Grows.refl _⟩
    | false =>
      obtain ⟨hm1, hm2, hm3⟩ := hgm rfl
      have HM := Lib.hid hm2
      clear hgm hm2
      go_wp2_with fail
      (with_reducible refine (twin_any Ad cd d _ hd.rd (by omega) hd.nil).mono ?_)
      rintro e w1 ⟨gt, ct, rfl, htc, htc6, htown, m0, rfl⟩
      obtain ⟨htb, htg, htl⟩ := twin_blk htown
      have htrd := twin_rd htown
      have HTO := Lib.hid htown
      have hdM := hd.grows (Grows.of w m0)
      by_cases hok : lcheckV d = 0
      · go_wp2_with fail
        (with_reducible refine (new_ptr (some ⟨gt, 0, none⟩) _ ct d _ rfl htrd (by omega) (fun h => by cases h) hd.each hok).mono ?_)
        rintro e w1 ⟨T0, rfl, hT0, hTL0, ⟨m1, rfl⟩, hTu, -⟩
        go_wp2_with fail
        (with_reducible refine (left_any Ad gt ct cd _ d _ (hdM.rd.grows (Grows.of _ _)) (by omega) htc htc6 (own_grows HTO.out (Grows.of _ _))).mono ?_)
        rintro e w1 ⟨rfl, m2, rfl⟩
        go_wp2_with fail
        (with_reducible refine (refCheck_any Ad cd d _ (hdM.rd.grows ((Grows.of _ _).more _)) hdl hd.each).mono ?_)
        rw [hok]
        rintro e w1 ⟨rfl, rfl⟩
        go_wp2_with fail
        have hgZ : Grows w (more (more (more w m0) m1) m2) := ((Grows.of _ _).more _).more _
        have hT9 := hT0.grows (Grows.of _ m2)
        have hbz : d.length ≤ (blk (more (more (more w m0) m1) m2) gt).size := by
          have := (own_blk (own_grows HTO.out (((Grows.refl _).more m1).more m2))).1
          omega
        have hnu : ¬ T0.uses gt := fun hu => by have := hTu gt hu; omega
        have hdZ := hd.grows hgZ
        have hadr : ∀ a, Ad = some a → 0 < d.length → a.block ≠ gt := fun a ha hn => by have := hd.rd.lt hn a ha; omega
        have HDZ := Lib.hid hdZ
        have HNU := Lib.hid hnu
        have HADR := Lib.hid hadr
        have HL := Lib.hid hL
        have HGZ := Lib.hid hgZ
        have HT9 := Lib.hid hT9
        have HTL := Lib.hid hTL0
        have HOK := Lib.hid hok
        clear hT9 hnu hdZ hadr htown htrd hdM hd hL hT0 hTL0 hTu hok htl hgZ HTO
        generalize more (more (more w m0) m1) m2 = Z at hbz HDZ HGZ HT9 ⊢
        go_loopg [8] d.length (fun q i wx => ∃ kk : Nat, q + kk = d.length ∧ i = .int .i64 kk ∧ Scr gt Z wx)
        case atStart => exact ⟨0, by omega, rfl, .inl rfl⟩
        case round =>
          obtain ⟨kk, hq2, rfl, hs⟩ := hrel
          have HQ2 := Lib.hid hq2
          have HSC := Lib.hid hs
          clear hq2 hs
          by_cases h3 : kk < d.length
          · obtain ⟨⟨u, hu⟩, hf, hi⟩ := HSC.out.cell (i := kk) (by omega)
            have i1 : kk < ct := by omega
            go_wp2_with fail
            go_roundg (gk - 1)
            case measure => have := HQ2.out; omega
            case rel => exact ⟨kk + 1, by have := HQ2.out; omega, by go_num, HSC.out.store (by omega)⟩
          · have hB0 : Both wr T0 Ad cd d := ⟨HSC.out.tbl HT9.out HNU.out, HTL.out, HOK.out, HSC.out.rd HDZ.out.rd HADR.out, HDZ.out.nil, HDZ.out.le, HDZ.out.cap63⟩
            have hG0 := HSC.out.grows HGZ.out htg
            clear HSC hbz
            go_wp2_with fail
            go_loopg [6, 7, 9, 10, 11, 12, 13, 14, 15] L.length (fun q t v i _ _ _ _ _ _ wx => ∃ (k : Nat) (T : Tbl) (Aw : Option Addr) (cw : Nat) (d' : List (List UInt8)), q + k = L.length ∧ i = .int .i64 k ∧ t = .pointer (some ⟨T.g, 0, none⟩) ∧ v = .slice Aw d'.length cw ∧ Both wx T Aw cw d' ∧ Grows w wx)
            case atStart => exact ⟨0, T0, Ad, cd, d, by omega, rfl, rfl, rfl, hB0, hG0⟩
            case round =>
              obtain ⟨g2, hg2⟩ : ∃ g2 : Nat, g2 = gk := ⟨_, rfl⟩
              obtain ⟨k, T, Aw, cw, d', hq, rfl, rfl, rfl, hB, hg⟩ := hrel
              have HQ := Lib.hid hq
              have HB := Lib.hid hB
              have HG := Lib.hid hg
              have hdl' := hB.len
              clear hq hB hB0 hg hG0
              by_cases hk : k < L.length
              · have HLX := Lib.hid (HL.out.grows HG.out)
                obtain ⟨b, o, hAe, hb, e0, e1, e2⟩ := HLX.out.rd.cut k hk
                subst hAe
                have hb : InHeap b wr := hb
                have hc := HLX.out.each L[k] (List.getElem_mem hk)
                have hins := (HM.out L[k] (List.getElem_mem hk)).1
                obtain ⟨ha, hde, hcm⟩ := hc
                have HCM := Lib.hid hcm
                clear hcm
                go_wp2_with fail
                (with_reducible refine (twin_any L[k].A L[k].cap L[k].ins _ HCM.out.rd (by omega) HCM.out.nil).mono ?_)
                rintro e w1 ⟨gi, ci, rfl, hic, hic6, hiown, m3, rfl⟩
                obtain ⟨hib, hig, hil⟩ := twin_blk hiown
                have hird := twin_rd hiown
                have HIO := Lib.hid hiown
                have HIR := Lib.hid hird
                clear hiown hird
                go_upto_region 18 with fail
                go_region_held3 (fun w' => w'.cell? ⟨b, o + k * 3, none⟩ = some (.int .i64 L[k].at_) ∧ w'.cell? ⟨b, o + k * 3 + 1, none⟩ = some (.int .i64 L[k].del) ∧ w'.cell? ⟨b, o + k * 3 + 2, none⟩ = some (.slice L[k].A L[k].ins.length L[k].cap))
                  (first | (simp [go_sem, hb, e0, e1, e2]; done))
                  (first | (go_at_call 17; (with_reducible refine (splice_ptr T _ (HB.out.tbl.grows (by repeat' first | exact Grows.refl _ | refine Grows.more ?_ _ | refine Grows.alloc ?_ _ | refine Grows.drew ?_)) L[k].at_ L[k].del (some ⟨gi, 0, none⟩) _ ci L[k].ins rfl (HIR.out.grows (by repeat' first | exact Grows.refl _ | exact grows_renum _ _ _ | refine Grows.more ?_ _ | refine Grows.alloc ?_ _ | refine Grows.drew ?_)) (fun h => by cases h) (by omega) HCM.out.each ha hde).mono ?_); rintro e w5 ⟨v, rfl, hno, hyes, m5, rfl⟩))
                rw [HB.out.lines] at *
                go_upto_region 19 with fail
                go_region_held3 (fun w' => w'.cell? ⟨b, o + k * 3, none⟩ = some (.int .i64 L[k].at_) ∧ w'.cell? ⟨b, o + k * 3 + 1, none⟩ = some (.int .i64 L[k].del) ∧ w'.cell? ⟨b, o + k * 3 + 2, none⟩ = some (.slice L[k].A L[k].ins.length L[k].cap))
                  (first | (simp [go_sem, hb, e0, e1, e2]; done))
                  (first | (go_at_call 18; (with_reducible refine (refSplice_any Aw L[k].A cw L[k].cap d' L[k].ins L[k].at_ L[k].del _ (HB.out.rd.grows (by repeat' first | exact Grows.refl _ | refine Grows.more ?_ _ | refine Grows.alloc ?_ _ | refine Grows.drew ?_)) HB.out.nil HB.out.le HB.out.cap63 (HCM.out.rd.grows (by repeat' first | exact Grows.refl _ | refine Grows.more ?_ _ | refine Grows.alloc ?_ _ | refine Grows.drew ?_)) HCM.out.nil (by omega) (by omega) HCM.out.each ha hde).mono ?_); rintro e w6 ⟨v6, rfl, hown, m6, rfl⟩))
                have hgW : Grows wr (more (more (more wr ⟨m3.bs, m3.n + 1⟩) ⟨m5.bs, m5.n + 1⟩) m6) := (((Grows.refl _).more _).more _).more _
                have hgW3 : Grows (more wr m3) (more (more (more wr ⟨m3.bs, m3.n + 1⟩) ⟨m5.bs, m5.n + 1⟩) m6) := ((grows_renum wr m3 _).more _).more _
                have HB6 := Lib.hid (HB.out.grows hgW)
                have HG6 := Lib.hid (HG.out.trans hgW)
                have HIO6 := Lib.hid (own_grows HIO.out hgW3)
                have HCM6 := Lib.hid (HCM.out.grows hgW)
                have hb6 : InHeap b (more (more (more wr ⟨m3.bs, m3.n + 1⟩) ⟨m5.bs, m5.n + 1⟩) m6) := Nat.lt_of_lt_of_le hb hgW.below.size
                have e26 := Grows.cell hgW hb e2
                have hown' : (more (more (more wr ⟨m3.bs, m3.n + 1⟩) ⟨m5.bs, m5.n + 1⟩) m6).ownsRow (gi + 1) 9 1 v6 (spliceV d' L[k].at_ L[k].del L[k].ins).1.length (lv (spliceV d' L[k].at_ L[k].del L[k].ins).1) := own_le hown (by simp [go_sem] at hil ⊢; omega)
                have hyes' : (spliceV d' L[k].at_ L[k].del L[k].ins).2 = 0 → ∃ U : Tbl, v = .pointer (some ⟨U.g, 0, none⟩) ∧ U.ok (more (more (more wr ⟨m3.bs, m3.n + 1⟩) ⟨m5.bs, m5.n + 1⟩) m6) ∧ U.L = (spliceV d' L[k].at_ L[k].del L[k].ins).1 ∧ ¬ U.uses gi := fun h => by
                  obtain ⟨U, h1, h2, h3, h4, _⟩ := hyes h
                  refine ⟨U, h1, ((show U.ok (more (more wr ⟨m3.bs, m3.n + 1⟩) m5) from h2).grows (show Grows (more (more wr ⟨m3.bs, m3.n + 1⟩) m5) (more (more wr ⟨m3.bs, m3.n + 1⟩) ⟨m5.bs, m5.n + 1⟩) from (Grows.refl (more (more wr ⟨m3.bs, m3.n + 1⟩) m5)).drew)).grows (Grows.of _ m6), h3, fun hu => ?_⟩
                  rcases h4 gi hu with h5 | h5
                  · have := HB.out.tbl.lt gi h5; omega
                  · have h6 : (more wr ⟨m3.bs, m3.n + 1⟩).heap.size ≤ gi := h5
                    simp at h6 hil; omega
                have hnT : ¬ T.uses gi := fun hu => by have := HB.out.tbl.lt gi hu; omega
                have hnW : ∀ a, Aw = some a → 0 < d'.length → a.block ≠ gi := fun a ha hn => by have := HB.out.rd.lt hn a ha; omega
                have hig6 : w.heap.size ≤ gi := Nat.le_trans HG.out.below.size hig
                have HNT := Lib.hid hnT
                have HNW := Lib.hid hnW
                clear hyes hown e0 e1 e2 hil hnT hnW hgW hgW3
                generalize more (more (more wr ⟨m3.bs, m3.n + 1⟩) ⟨m5.bs, m5.n + 1⟩) m6 = W6 at HB6 HG6 HIO6 HCM6 hb6 e26 hown' hyes' ⊢
                have hgood := fun (hq : (spliceV d' L[k].at_ L[k].del L[k].ins).2 = 0) => (spliceV_good (at_ := L[k].at_) (del := L[k].del) (ins := L[k].ins) HB6.out.good hq).2.2.2.2.2
                generalize spliceV d' L[k].at_ L[k].del L[k].ins = x at hown' hyes' hgood hno ⊢
                obtain ⟨dx, cx⟩ := x
                simp only [] at hown' hyes' hgood hno
                obtain ⟨Ax, capx, rfl, hx1, hx2, hx3, hx4, hx5⟩ := own_row hown'
                clear hown'
                by_cases hz : cx = 0
                case' pos =>
                  subst hz
                  obtain ⟨U, rfl, hU, hUL, hUg⟩ := hyes' rfl
                  have HBN : Hid (Both W6 U Ax capx dx) := Lib.hid ⟨hU, hUL, hgood rfl, hx3, hx4, hx1, hx2⟩
                  have HNG : Hid (¬ U.uses gi) := Lib.hid hUg
                  have HNA : Hid (∀ a, Ax = some a → 0 < dx.length → a.block ≠ gi) := Lib.hid (fun a ha _ => by have := (hx5 a ha).2; omega)
                  clear hno hyes' hgood hU hUL hUg hx1 hx2 hx3 hx4 hx5
                  go_wp2_with fail
                case' neg =>
                  have hz1 : (cx == 0) = false := by simpa using hz
                  have hz2 : (cx != 0) = true := by simpa using hz
                  obtain rfl := hno hz
                  clear hno hyes' hgood hx1 hx2 hx3 hx4 hx5 hz
                  go_wp2_with fail
                all_goals
                  (with_reducible refine (left_any L[k].A gi ci L[k].cap _ L[k].ins _ HCM6.out.rd (by omega) hic hic6 HIO6.out).mono ?_)
                  rintro e w1 ⟨rfl, m7, rfl⟩
                  go_wp2_with fail
                  (with_reducible refine (all_ptr T _ (HB6.out.tbl.grows (Grows.of _ _))).mono ?_)
                  rw [HB6.out.lines]
                  rintro e w1 ⟨v8, rfl, hown8, m8, rfl⟩
                  obtain ⟨A8, c8, rfl, -, -, hA8, -⟩ := own_row hown8
                  clear hown8
                  go_wp2_with fail
                  (with_reducible refine (lawSame_at A8 Aw c8 cw _ _ d' d' _ hA8 (HB6.out.rd.grows ((Grows.of _ _).more _)) (by omega) (by omega) rfl rfl).mono ?_)
                  rw [sameL_self]
                  rintro e w1 ⟨rfl, m9, rfl⟩
                  have hgY : Grows W6 (more (more (more W6 m7) m8) m9) := ((Grows.of _ _).more _).more _
                  have HBY := Lib.hid (HB6.out.grows hgY)
                  have HGY := Lib.hid (HG6.out.trans hgY)
                  have hby : L[k].ins.length < (blk (more (more (more W6 m7) m8) m9) gi).size := (twin_blk (own_grows HIO6.out hgY)).1
                  try have HBNY := Lib.hid (HBN.out.grows hgY)
                  clear hA8 hgY hb6 e26
                  generalize more (more (more W6 m7) m8) m9 = Y at *
                  go_wp2_with fail
                  go_loopg [15] L[k].ins.length (fun q i wx => ∃ kk : Nat, q + kk = L[k].ins.length ∧ i = .int .i64 kk ∧ Scr gi Y wx)
                  case atStart => exact ⟨0, by omega, rfl, .inl rfl⟩
                  case round =>
                    obtain ⟨k3, hq3, rfl, hs3⟩ := hrel
                    have HQ3 := Lib.hid hq3
                    have HSC := Lib.hid hs3
                    clear hq3 hs3
                    by_cases h5 : k3 < L[k].ins.length
                    · obtain ⟨⟨u, hu⟩, hf, hi⟩ := HSC.out.cell (i := k3) (by omega)
                      have i1 : k3 < ci := by omega
                      go_wp2_with fail
                      go_roundg (gk - 1)
                      case measure => have := HQ3.out; omega
                      case rel => exact ⟨k3 + 1, by have := HQ3.out; omega, by go_num, HSC.out.store (by omega)⟩
                    · have hG9 := HSC.out.grows HGY.out hig6
                      have HG9 := Lib.hid hG9
                      clear hG9
                      go_wp2_with fail
                      go_roundg (g2 - 1)
                      case measure => have := HQ.out; omega
                      case rel =>
                        first
                          | exact ⟨k + 1, U, Ax, capx, dx, by have := HQ.out; omega, by go_num, rfl, rfl, ⟨HSC.out.tbl HBNY.out.tbl HNG.out, HBNY.out.lines, HBNY.out.good, HSC.out.rd HBNY.out.rd HNA.out, HBNY.out.nil, HBNY.out.le, HBNY.out.cap63⟩, HG9.out⟩
                          | exact ⟨k + 1, T, Aw, cw, d', by have := HQ.out; omega, by go_num, rfl, rfl, ⟨HSC.out.tbl HBY.out.tbl HNT.out, HBY.out.lines, HBY.out.good, HSC.out.rd HBY.out.rd HNW.out, HBY.out.nil, HBY.out.le, HBY.out.cap63⟩, HG9.out⟩
              · have hj := joinL_small HB.out.good
                go_wp2_with fail
                (with_reducible refine (all_ptr T _ HB.out.tbl).mono ?_)
                rw [HB.out.lines]
                rintro e w1 ⟨v8, rfl, hown8, m8, rfl⟩
                obtain ⟨A8, c8, rfl, -, -, hA8, -⟩ := own_row hown8
                clear hown8
                go_wp2_with fail
                (with_reducible refine (lawSame_at A8 Aw c8 cw _ _ d' d' _ hA8 (HB.out.rd.grows (Grows.of _ _)) (by omega) (by omega) rfl rfl).mono ?_)
                rw [sameL_self]
                rintro e w1 ⟨rfl, m9, rfl⟩
                go_wp2_with fail
                (with_reducible refine (len_ptr T _ (HB.out.tbl.grows ((Grows.of _ _).more _))).mono ?_)
                rw [HB.out.lines]
                rintro e w1 ⟨rfl, rfl⟩
                go_wp2_with fail
                (with_reducible refine (text_ptr T _ (HB.out.tbl.grows ((Grows.of _ _).more _)) (by rw [HB.out.lines]; omega)).mono ?_)
                rw [HB.out.lines]
                rintro e w1 ⟨rfl, m10, rfl⟩
                go_wp2_with fail
                (with_reducible refine (refJoin_any Aw cw d' _ (HB.out.rd.grows (((Grows.of _ _).more _).more _)) (by omega) (by omega)).mono ?_)
                rintro e w1 ⟨rfl, rfl⟩
                have hself := str_eq (a := tx (joinL d')) rfl
                go_wp2_with fail
                (with_reducible refine (does_any _).mono ?_)
                rintro e w1 ⟨rfl, m11, rfl⟩
                go_wp2_with fail
                go_ret
                exact ⟨rfl, (((HG.out.more _).more _).more _).more _⟩
      · go_wp2_with fail
        (with_reducible refine (new_no (some ⟨gt, 0, none⟩) ct d _ htrd (by omega) hd.each hok).mono ?_)
        rintro e w1 ⟨rfl, rfl⟩
        have hok' : (lcheckV d == 0) = false := by simpa using hok
        clear hok
        go_wp2_with fail
        (with_reducible refine (left_any Ad gt ct cd _ d _ hdM.rd (by omega) htc htc6 HTO.out).mono ?_)
        rintro e w1 ⟨rfl, m2, rfl⟩
        go_wp2_with fail
        (with_reducible refine (refCheck_any Ad cd d _ (hdM.rd.grows (Grows.of _ _)) hdl hd.each).mono ?_)
        rintro e w1 ⟨rfl, rfl⟩
        go_wp2_with fail
        (with_reducible refine (does_any _).mono ?_)
        rintro e w1 ⟨rfl, m4, rfl⟩
        go_wp2_with fail
        go_ret
        exact ⟨rfl, ((Grows.of _ _).more _).more _⟩
end Go.Proofs.Ytblcggmbaofflaa
