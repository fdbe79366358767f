/-
  The law CoreUndo.
-/
import Derived.Test.YthanghgfakibnaaPk45
import Derived.Test.YthanghgfakibnaaPk47
namespace Go.Proofs.Ythanghgfakibnaa
open Go.RowKit
attribute [local go_sem ↓] zeroView2 ldMarks_eq
attribute [local go_sem] zv_0 zv_1 zv_28 zv_size zv_one zv_g0 zv_g1 zv_g28 viC_size viC_one viC_marks equal23 loadMarks loadMarks_if
set_option maxRecDepth 3000 in
set_option maxHeartbeats 4000000 in
theorem coreUndo_big (A A2 A3 : Option Addr) (cap cap2 cap3 : Nat) (l : List (List UInt8)) (L : List AcC) (S : List Spx) (w : World) (hl : Came w A cap l) (hL : AcsIn w A2 L) (hS : SpsIn w A3 S) (hb : bigL l 20 = true ∨ bigAcs L 40 = true ∨ 10 < S.length) :
    Calls Try.prog 4 #[.slice A l.length cap, .slice A2 L.length cap2, .slice A3 S.length cap3] w fun e w' => e = .returned (.bool true) ∧ Grows w w' := by
  have HL := Lib.hid hl
  have HA := Lib.hid hL
  have HS := Lib.hid hS
  clear hl hL hS
  cases h1 : bigL l 20 with
  | true =>
    have H1 := Lib.hid h1
    clear h1 hb
    go_enter Try.func4, Try.ntmps4
    go_wp2_with fail
    (with_reducible refine (beyond20 A cap l _ HL.out.rd HL.out.len HL.out.each).mono ?_)
    rw [H1.out]
    rintro e w1 ⟨rfl, rfl⟩
    go_wp2_with fail
    (with_reducible refine (lives19 _).mono ?_)
    rintro e w1 ⟨rfl, hg⟩
    have HG := Lib.hid hg
    clear hg
    go_wp2_with fail
    go_ret
    exact ⟨rfl, HG.out⟩
  | false =>
    have H1 := Lib.hid h1
    cases h2 : bigAcs L 40 with
    | true =>
      have H2 := Lib.hid h2
      clear h1 h2 hb
      go_enter Try.func4, Try.ntmps4
      go_wp2_with fail
      (with_reducible refine (beyond20 A cap l _ HL.out.rd HL.out.len HL.out.each).mono ?_)
      rw [H1.out]
      rintro e w1 ⟨rfl, rfl⟩
      go_wp2_with fail
      (with_reducible refine (beyondAc A2 cap2 L 40 40 rfl _ HA.out (by omega)).mono ?_)
      rw [H2.out]
      rintro e w1 ⟨rfl, rfl⟩
      go_wp2_with fail
      (with_reducible refine (lives19 _).mono ?_)
      rintro e w1 ⟨rfl, hg⟩
      have HG := Lib.hid hg
      clear hg
      go_wp2_with fail
      go_ret
      exact ⟨rfl, HG.out⟩
    | false =>
      have H2 := Lib.hid h2
      have h3 : 10 < S.length := by simpa [h1, h2] using hb
      have h3' : (10 : Int) < (S.length : Int) := by omega
      clear h1 h2 hb
      go_enter Try.func4, Try.ntmps4
      go_wp2_with fail
      (with_reducible refine (beyond20 A cap l _ HL.out.rd HL.out.len HL.out.each).mono ?_)
      rw [H1.out]
      rintro e w1 ⟨rfl, rfl⟩
      go_wp2_with fail
      (with_reducible refine (beyondAc A2 cap2 L 40 40 rfl _ HA.out (by omega)).mono ?_)
      rw [H2.out]
      rintro e w1 ⟨rfl, rfl⟩
      go_wp2_with fail
      (with_reducible refine (lives19 _).mono ?_)
      rintro e w1 ⟨rfl, hg⟩
      have HG := Lib.hid hg
      clear hg
      go_wp2_with fail
      go_ret
      exact ⟨rfl, HG.out⟩
/-- What a change of splices leaves, and how. -/
def chV (b : CoV) (S : List Spx) : CoV := spsV (coBegin b).1 (S.map Spx.v)
set_option maxRecDepth 3000 in
set_option maxHeartbeats 16000000 in
theorem coreUndo_law (A A2 A3 : Option Addr) (cap cap2 cap3 : Nat) (l : List (List UInt8)) (L : List AcC) (S : List Spx) (w : World) (hl : Came w A cap l) (hL : AcsIn w A2 L) (hS : SpsIn w A3 S) :
    Calls Try.prog 4 #[.slice A l.length cap, .slice A2 L.length cap2, .slice A3 S.length cap3] w fun e w' => e = .returned (.bool true) ∧ Grows w w' := by
  by_cases hb : bigL l 20 = true ∨ bigAcs L 40 = true ∨ 10 < S.length
  · exact coreUndo_big A A2 A3 cap cap2 cap3 l L S w hl hL hS hb
  · have HL := Lib.hid hl
    have HA := Lib.hid hL
    have HS := Lib.hid hS
    have h1 : bigL l 20 = false := by simpa using fun h => hb (.inl h)
    have h2 : bigAcs L 40 = false := by simpa using fun h => hb (.inr (.inl h))
    have hS10 : S.length ≤ 10 := by
      apply Nat.le_of_not_lt
      exact fun h => hb (.inr (.inr h))
    have H1 := Lib.hid h1
    have H2 := Lib.hid h2
    have hS10' : ¬ (10 : Int) < (S.length : Int) := by omega
    have hl20 : l.length ≤ 20 := (bigL_no h1).1
    clear hl hL hS hb h1 h2
    go_enter Try.func4, Try.ntmps4
    go_wp2_with fail
    (with_reducible refine (beyond20 A cap l _ HL.out.rd HL.out.len HL.out.each).mono ?_)
    rw [H1.out]
    rintro e w1 ⟨rfl, rfl⟩
    go_wp2_with fail
    (with_reducible refine (beyondAc A2 cap2 L 40 40 rfl _ HA.out (by omega)).mono ?_)
    rw [H2.out]
    rintro e w1 ⟨rfl, rfl⟩
    go_wp2_with fail
    go_loopg [7] S.length (fun q i wr => ∃ k : Nat, q + k = S.length ∧ i = .int .i64 k ∧ wr = w ∧ ∀ j (h : j < S.length), j < k → bigL S[j].ins 20 = false)
    case atStart => exact ⟨0, by omega, rfl, rfl, fun _ _ h => absurd h (by omega)⟩
    case round =>
      obtain ⟨k, hq, rfl, rfl, hall⟩ := hrel
      have HQ := Lib.hid hq
      have HB := Lib.hid hall
      have hkl : k ≤ S.length := by omega
      clear hq hall
      by_cases h2 : k < S.length
      · obtain ⟨b, o, rfl, hb, e0, e1, e2⟩ := HS.out.rd.sp k h2
        have hc := Lib.hid (HS.out.each _ (List.getElem_mem h2)).2.2
        have k0 : (0 : Int) ≤ (k : Int) := by omega
        have k1 : (k : Int) < (S.length : Int) := by omega
        cases h3 : bigL S[k].ins 20 with
        | true =>
          have H3 := Lib.hid h3
          clear h3
          go_wp2_with fail
          (with_reducible refine (beyond20 S[k].A S[k].cap S[k].ins _ hc.out.rd hc.out.len hc.out.each).mono ?_)
          rw [H3.out]
          rintro e w1 ⟨rfl, rfl⟩
          go_wp2_with fail
          (with_reducible refine (lives19 _).mono ?_)
          rintro e w1 ⟨rfl, hg⟩
          have HG := Lib.hid hg
          clear hg
          go_wp2_with fail
          go_ret
          exact ⟨rfl, HG.out⟩
        | false =>
          have H3 := Lib.hid h3
          clear h3
          go_wp2_with fail
          (with_reducible refine (beyond20 S[k].A S[k].cap S[k].ins _ hc.out.rd hc.out.len hc.out.each).mono ?_)
          rw [H3.out]
          rintro e w1 ⟨rfl, rfl⟩
          go_wp2_with fail
          go_roundg (gk - 1)
          case measure => have := HQ.out; omega
          case rel =>
            refine ⟨k + 1, by have := HQ.out; omega, by go_num, rfl, fun j hj h => ?_⟩
            by_cases e : j = k
            · subst e; exact H3.out
            · exact HB.out j hj (by omega)
      · have hk : k = S.length := by omega
        subst hk
        have hall : Hid (∀ s ∈ S, s.ins.length ≤ 20 ∧ ∀ t ∈ s.ins, t.length ≤ 300) := Lib.hid (fun s hs => by
          obtain ⟨j, hj, rfl⟩ := List.getElem_of_mem hs
          exact bigL_no (HB.out j hj hj))
        clear HB HQ
        obtain ⟨W, hW⟩ : ∃ z, z = wr := ⟨_, rfl⟩
        subst hW
        by_cases h0 : lcheckV l = 0
        · have H0 := Lib.hid h0
          clear h0
          go_wp2_with fail
          (with_reducible refine (made_yes A A2 cap cap2 l L W _ (fun _ => False) (fun _ h => h.elim) (Grows.refl _) HL.out H0.out HA.out H2.out).mono ?_)
          rintro e w1 ⟨g, K1, rfl, hC, -, -⟩
          have C1 := Lib.hid hC
          have OK1 := Lib.hid (madeV_ok H0.out L)
          have W1 := Lib.hid (madeV_was l L)
          obtain ⟨b, hb⟩ : ∃ b, b = madeV l L := ⟨_, rfl⟩
          rw [← hb] at C1 OK1 W1
          clear hC hb
          go_wp2_with fail
          (with_reducible refine (co_view C1.out).mono ?_)
          rintro e w2 ⟨Av, cv, rfl, hv, hg⟩
          have LV := Lib.hid hv
          have C2 := Lib.hid (C1.out.grows hg)
          have m26 := C2.out.good.s.many
          clear hv hg C1
          go_wp2_with fail
          have V3 := Lib.hid (viAt_new (t := 38) C2.out LV.out m26 (tx b.last))
          (with_reducible refine (co_begin (C2.out.grows (by repeat' first | exact Grows.refl _ | refine Grows.more ?_ _ | refine Grows.alloc ?_ _ | refine Grows.drew ?_)) (coBegin b).1 0 (by rw [coBegin_none W1.out])).mono ?_)
          rintro e w4 ⟨rfl, K4, hC, hst⟩
          have C4 := Lib.hid hC
          have V4 := Lib.hid (V3.out.step hst)
          have I4 : Hid (InCh b (coBegin b).1) := Lib.hid (by rw [coBegin_none W1.out]; exact InCh.start b)
          have OK4 := Lib.hid OK1.out.begin_
          have D4 : Hid ((coBegin b).1.did.length = 0) := Lib.hid (by rw [coBegin_none W1.out]; rfl)
          obtain ⟨p, hp⟩ : ∃ p, w2.heap.size = p := ⟨_, rfl⟩
          rw [hp] at V4 ⊢
          obtain ⟨c4, hc4⟩ : ∃ c, (coBegin b).1 = c := ⟨_, rfl⟩
          rw [hc4] at C4 I4 OK4 D4
          clear hC hst LV C2 V3 W1 hp hc4
          go_wp2_with fail
          go_loopg [12] S.length (fun q i wr => ∃ (k : Nat) (K : Nat → Prop), q + k = S.length ∧ i = .int .i64 k ∧ Co W (fun _ => False) K g (spsV c4 ((S.map Spx.v).take k)) wr ∧ ViAt K wr p Av cv b.s)
          case atStart => exact ⟨0, K4, by omega, rfl, C4.out, V4.out⟩
          case round =>
            obtain ⟨k, K, hq, rfl, hC, hV⟩ := hrel
            have HQ := Lib.hid hq
            have C5 := Lib.hid hC
            have V5 := Lib.hid hV
            have hkl : k ≤ S.length := by omega
            clear hq hC hV
            by_cases h2 : k < S.length
            · obtain ⟨b0, o0, rfl, hb, e0, e1, e2⟩ := (HS.out.grows C5.out.grown).rd.sp k h2
              have hb : InHeap b0 wr := hb
              have hc := Lib.hid ((HS.out.grows C5.out.grown).each _ (List.getElem_mem h2))
              have ha := Lib.hid (hall.out _ (List.getElem_mem h2))
              have hdid : Hid ((spsV c4 ((S.map Spx.v).take k)).did.length ≤ 1000000) := Lib.hid (by
                have := spsV_did c4 ((S.map Spx.v).take k)
                rw [D4.out, List.length_take] at this
                omega)
              have k0 : (0 : Int) ≤ (k : Int) := by omega
              have k1 : (k : Int) < (S.length : Int) := by omega
              have HT : Hid (spsV c4 ((S.map Spx.v).take (k + 1)) = (coSplice (spsV c4 ((S.map Spx.v).take k)) S[k].v).1) := Lib.hid (by rw [spsV_take _ _ _ (by simpa using h2), List.getElem_map])
              go_wp2_with fail
              (with_reducible refine (co_splice (okI := fun b => b < wr.heap.size) (C5.out.grows (by repeat' first | exact Grows.refl _ | refine Grows.more ?_ _ | refine Grows.alloc ?_ _ | refine Grows.drew ?_)) S[k].at_ S[k].del S[k].A S[k].ins.length S[k].cap S[k].ins rfl hc.out.1 hc.out.2.1 ((lrd_came hc.out.2.2).grows (by repeat' first | exact Grows.refl _ | refine Grows.more ?_ _ | refine Grows.alloc ?_ _ | refine Grows.drew ?_)) (fun s hs => by have := ha.out.2 s hs; omega) (by have := ha.out.1; omega) hdid.out (coSplice (spsV c4 ((S.map Spx.v).take k)) S[k].v).1 (coSplice (spsV c4 ((S.map Spx.v).take k)) S[k].v).2 rfl).mono ?_)
              rintro e w6 ⟨rfl, K6, hC, hst⟩
              have C6 := Lib.hid (HT.out ▸ hC)
              have V6 := Lib.hid ((V5.out.grows (by repeat' first | exact Grows.refl _ | refine Grows.more ?_ _ | refine Grows.alloc ?_ _ | refine Grows.drew ?_)).step hst)
              clear hC hst
              go_wp2_with fail
              go_roundg (gk - 1)
              case measure => have := HQ.out; omega
              case rel => exact ⟨k + 1, K6, by have := HQ.out; omega, by go_num, C6.out, V6.out⟩
            · have hk : k = S.length := by omega
              subst hk
              have I5 : Hid (InCh b (spsV c4 ((S.map Spx.v).take S.length))) := Lib.hid (I4.out.splices _)
              obtain ⟨c5, hc5⟩ : ∃ c, spsV c4 ((S.map Spx.v).take S.length) = c := ⟨_, rfl⟩
              have D5 : Hid (c5.did.length ≤ 10) := Lib.hid (by
                have := spsV_did c4 ((S.map Spx.v).take S.length)
                rw [D4.out, List.length_take, List.length_map, hc5] at this
                omega)
              have OK5 : Hid (LOk c5) := Lib.hid (hc5 ▸ OK4.out.splices _)
              rw [hc5] at C5 I5
              clear HQ hc5 C4 V4 I4 D4 OK4
              obtain ⟨wn, hwn⟩ : ∃ z, z = wr := ⟨_, rfl⟩
              subst hwn
              go_wp2_with fail
              (with_reducible refine (co_end C5.out (coEnd c5).1 (coEnd c5).2 rfl c5.did.length (by rw [I5.out.end_did])).mono ?_)
              rintro e w7 ⟨Ad, cd, Dd, rfl, hDv, hDr, hDe, hC, hst⟩
              have hDl : Hid (c5.did.length = Dd.length) := Lib.hid (by
                have := congrArg List.length hDv
                rw [I5.out.end_did] at this
                simpa using this.symm)
              have hDg : Hid (∀ s ∈ Dd, s.v.good) := Lib.hid (fun s hs => C5.out.good.did _ (by rw [← I5.out.end_did, ← hDv]; exact List.mem_map_of_mem hs))
              have hDf : Hid (foldS b.s.L (Dd.map Spx.v) = (c5.s.L, 0)) := Lib.hid (by rw [hDv, I5.out.end_did]; exact I5.out.fold)
              have E7 : Hid ((coEnd c5).1.s = c5.s) := Lib.hid I5.out.end_s
              have n26 := C5.out.good.s.many
              have l2000 : c5.s.L.length ≤ 2000 := C5.out.good.s.len
              have C7 := Lib.hid hC
              have V7 := Lib.hid (V5.out.step hst)
              have DR7 := Lib.hid hDr
              have DE7 := Lib.hid hDe
              clear hC hst hDv hDr hDe C5 V5
              go_wp2_with fail
              (with_reducible refine (view_s C7.out c5.s E7.out).mono ?_)
              rintro e w8 ⟨An, cn, rfl, hv, hg⟩
              have LV := Lib.hid hv
              have V8 := Lib.hid (V7.out.grows hg)
              have C8 := Lib.hid (C7.out.grows hg)
              have DR8 := Lib.hid (DR7.out.grows hg)
              have DE8 := Lib.hid (fun s hs => (DE7.out s hs).grows hg)
              have v0 := V8.out.c0
              have iv := V8.out.inh
              clear hv hg C7 V7 DR7 DE7
              go_wp2_with fail
              have N9 := Lib.hid (viAt_new (t := 38) C8.out LV.out n26 (tx (coEnd c5).1.last))
              (with_reducible refine (allS_any Av Ad b.s.L.length cv c5.did.length cd b.s.L c5.s.L Dd _ rfl hDl.out (V8.out.lines.grows (by repeat' first | exact Grows.refl _ | refine Grows.more ?_ _ | refine Grows.alloc ?_ _ | refine Grows.drew ?_)) OK1.out.s (DR8.out.grows (by repeat' first | exact Grows.refl _ | refine Grows.more ?_ _ | refine Grows.alloc ?_ _ | refine Grows.drew ?_)) (fun s hs => (DE8.out s hs).grows (by repeat' first | exact Grows.refl _ | refine Grows.more ?_ _ | refine Grows.alloc ?_ _ | refine Grows.drew ?_)) hDg.out (by have := D5.out; have := hDl.out; omega) hDf.out).mono ?_)
              rintro e w9 ⟨B, c2, rfl, hB, hg⟩
              have B9 := Lib.hid hB
              have N9 := Lib.hid (N9.out.grows hg)
              have V9 := Lib.hid ((V8.out.grows ((Grows.refl _).alloc _)).grows hg)
              have C9 := Lib.hid ((C8.out.grows ((Grows.refl _).alloc _)).grows hg)
              have n0 := N9.out.c0
              obtain ⟨q, hq⟩ : ∃ q, w8.heap.size = q := ⟨_, rfl⟩
              rw [hq] at N9 n0 ⊢
              have iq := N9.out.inh
              clear hB hg LV V8 C8 DR8 DE8 v0 iv hq
              go_wp2_with fail
              (with_reducible refine (same_eq B An c2 cn c5.s.L.length c5.s.L.length c5.s.L _ B9.out N9.out.lines.rd (by omega) rfl rfl).mono ?_)
              rintro e w10 ⟨rfl, hg⟩
              have N10 := Lib.hid (N9.out.grows hg)
              have V10 := Lib.hid (V9.out.grows hg)
              have C10 := Lib.hid (C9.out.grows hg)
              clear hg B9 N9 V9 C9 n0 iq
              by_cases hd : c5.did.length = 0
              · have e5 := I5.out.nothing (List.eq_nil_of_length_eq_zero hd)
                have v0 := V10.out.c0
                have iv := V10.out.inh
                have n0 := N10.out.c0
                have iq := N10.out.inh
                rw [e5] at l2000
                go_wp2_with fail
                (with_reducible refine (same_eq Av An cv cn b.s.L.length b.s.L.length b.s.L _ V10.out.lines.rd (e5 ▸ N10.out.lines.rd) (by omega) rfl rfl).mono ?_)
                rintro e w11 ⟨rfl, hg⟩
                obtain ⟨lv1, bv⟩ := (V10.out.grows hg).cells
                obtain ⟨ln1, bq⟩ := (N10.out.grows hg).cells
                rw [e5] at bq
                have C11 := Lib.hid (C10.out.grows hg)
                clear hg v0 iv n0 iq N10 V10 C10
                go_wp2_with fail
                (with_reducible refine (lives19 _).mono ?_)
                rintro e w12 ⟨rfl, hg⟩
                have G12 := Lib.hid (C11.out.grown.trans hg)
                clear hg C11
                go_wp2_with fail
                go_ret
                exact ⟨rfl, G12.out⟩
              · have hne : c5.did ≠ [] := fun e => hd (by rw [e]; rfl)
                obtain ⟨c7, h7⟩ : ∃ c, c = { (coEnd c5).1 with s := b.s, undo := some c5.s, dirty := true } := ⟨_, rfl⟩
                have U7 : Hid (coUndo (coEnd c5).1 = (c7, 0)) := Lib.hid (by rw [(I5.out.back hne).1, h7])
                have T7 := Lib.hid (I5.out.back hne).2
                have S7 : Hid (c7.s = b.s) := Lib.hid (by rw [h7])
                obtain ⟨c8, h8⟩ : ∃ c, c = { c7 with s := c5.s, undo := some b.s, dirty := true } := ⟨_, rfl⟩
                have U8 : Hid (coUndo c7 = (c8, 0)) := Lib.hid (by rw [(I5.out.again hne c7 h7).1, h8])
                have T8 := Lib.hid (I5.out.again hne c7 h7).2
                have S8 : Hid (c8.s = c5.s) := Lib.hid (by rw [h8])
                have lb2000 : b.s.L.length ≤ 2000 := (lcheckV_good.1 OK1.out.s).1
                clear h7 h8 hne
                go_wp2_with fail
                (with_reducible refine (co_undo C10.out c7 0 _ U7.out T7.out 1 rfl).mono ?_)
                rintro e w11 ⟨Aa, ca, Da, rfl, hDa, hSa, hC, hst⟩
                have V11 := Lib.hid (V10.out.step hst)
                have N11 := Lib.hid (N10.out.step hst)
                have C11 := Lib.hid hC
                have SA11 := Lib.hid hSa
                have DA := Lib.hid hDa
                clear hDa hSa hC hst V10 N10 C10
                go_wp2_with fail
                (with_reducible refine (view_s C11.out b.s S7.out).mono ?_)
                rintro e w12 ⟨Ab, cb, rfl, hv, hg⟩
                have V12 := Lib.hid (V11.out.grows hg)
                have N12 := Lib.hid (N11.out.grows hg)
                have C12 := Lib.hid (C11.out.grows hg)
                have SA12 := Lib.hid (SA11.out.grows hg)
                have LB := Lib.hid hv
                clear hv hg V11 N11 C11 SA11
                go_wp2_with fail
                have R13 := Lib.hid (viAt_new (t := 38) C12.out LB.out m26 (tx c7.last))
                (with_reducible refine (co_undo (C12.out.grows (by repeat' first | exact Grows.refl _ | refine Grows.more ?_ _ | refine Grows.alloc ?_ _ | refine Grows.drew ?_)) c8 0 _ U8.out T8.out 1 rfl).mono ?_)
                rintro e w14 ⟨Ab2, cb2, Db, rfl, hDb, hSb, hC, hst⟩
                have V14 := Lib.hid ((V12.out.grows ((Grows.refl _).alloc _)).step hst)
                have N14 := Lib.hid ((N12.out.grows ((Grows.refl _).alloc _)).step hst)
                have SA14 := Lib.hid ((SA12.out.grows ((Grows.refl _).alloc _)).step hst)
                have R14 := Lib.hid (R13.out.step hst)
                have C14 := Lib.hid hC
                have SB14 := Lib.hid hSb
                have DB := Lib.hid hDb
                obtain ⟨r, hr⟩ : ∃ r, w12.heap.size = r := ⟨_, rfl⟩
                rw [hr] at R14 ⊢
                clear hDb hSb hC hst V12 N12 C12 SA12 LB R13 hr
                go_wp2_with fail
                (with_reducible refine (view_s C14.out c5.s S8.out).mono ?_)
                rintro e w15 ⟨At, ct, rfl, hv, hg⟩
                have V15 := Lib.hid (V14.out.grows hg)
                have N15 := Lib.hid (N14.out.grows hg)
                have R15 := Lib.hid (R14.out.grows hg)
                have C15 := Lib.hid (C14.out.grows hg)
                have SA15 := Lib.hid (SA14.out.grows hg)
                have SB15 := Lib.hid (SB14.out.grows hg)
                have LT := Lib.hid hv
                have n0 := N15.out.c0
                have iq := N15.out.inh
                clear hv hg V14 N14 C14 SA14 SB14 R14
                go_wp2_with fail
                have T16 := Lib.hid (viAt_new (t := 38) C15.out LT.out n26 (tx c8.last))
                have hDal : Hid (1 = Da.length) := Lib.hid (by have := congrArg List.length DA.out; simpa using this.symm)
                have hDbl : Hid (1 = Db.length) := Lib.hid (by have := congrArg List.length DB.out; simpa using this.symm)
                (with_reducible refine (allS_any An Aa c5.s.L.length cn 1 ca c5.s.L b.s.L Da _ rfl hDal.out (N15.out.lines.grows (by repeat' first | exact Grows.refl _ | refine Grows.more ?_ _ | refine Grows.alloc ?_ _ | refine Grows.drew ?_)) OK5.out.s (SA15.out.rd.grows (by repeat' first | exact Grows.refl _ | refine Grows.more ?_ _ | refine Grows.alloc ?_ _ | refine Grows.drew ?_)) (fun s hs => (SA15.out.each s hs).grows (by repeat' first | exact Grows.refl _ | refine Grows.more ?_ _ | refine Grows.alloc ?_ _ | refine Grows.drew ?_)) (told_good DA.out OK1.out.s (by omega)) (by have := hDal.out; omega) (by rw [DA.out]; exact whole_back _ _ OK5.out.s OK1.out.s)).mono ?_)
                rintro e w17 ⟨B2, k2, rfl, hB, hg⟩
                have B17 := Lib.hid hB
                have V17 := Lib.hid ((V15.out.grows ((Grows.refl _).alloc _)).grows hg)
                have N17 := Lib.hid ((N15.out.grows ((Grows.refl _).alloc _)).grows hg)
                have R17 := Lib.hid ((R15.out.grows ((Grows.refl _).alloc _)).grows hg)
                have T17 := Lib.hid (T16.out.grows hg)
                have C17 := Lib.hid ((C15.out.grows ((Grows.refl _).alloc _)).grows hg)
                have SB17 := Lib.hid ((SB15.out.grows ((Grows.refl _).alloc _)).grows hg)
                obtain ⟨t, ht⟩ : ∃ t, w15.heap.size = t := ⟨_, rfl⟩
                rw [ht] at T17 ⊢
                have r0 := R17.out.c0
                have ir := R17.out.inh
                clear hB hg V15 N15 C15 SA15 SB15 R15 LT T16 ht n0 iq
                go_wp2_with fail
                (with_reducible refine (allS_any Ab Ab2 b.s.L.length cb 1 cb2 b.s.L c5.s.L Db _ rfl hDbl.out R17.out.lines OK1.out.s SB17.out.rd SB17.out.each (told_good DB.out OK5.out.s (by omega)) (by have := hDbl.out; omega) (by rw [DB.out]; exact whole_back _ _ OK1.out.s OK5.out.s)).mono ?_)
                rintro e w18 ⟨B3, k3, rfl, hB, hg⟩
                have B18 := Lib.hid (B17.out.grows hg)
                have Y18 := Lib.hid hB
                have V18 := Lib.hid (V17.out.grows hg)
                have N18 := Lib.hid (N17.out.grows hg)
                have R18 := Lib.hid (R17.out.grows hg)
                have T18 := Lib.hid (T17.out.grows hg)
                have C18 := Lib.hid (C17.out.grows hg)
                clear hB hg V17 N17 R17 T17 C17 SB17 r0 ir B17
                have v0 := V18.out.c0
                have v1 := V18.out.c1
                have iv := V18.out.inh
                obtain ⟨l1, bv⟩ := V18.out.cells
                have n0 := N18.out.c0
                have n1 := N18.out.c1
                have iq := N18.out.inh
                obtain ⟨l2, bq⟩ := N18.out.cells
                have r0 := R18.out.c0
                have r1 := R18.out.c1
                have ir := R18.out.inh
                obtain ⟨l3, br⟩ := R18.out.cells
                have t0 := T18.out.c0
                have t1 := T18.out.c1
                have it := T18.out.inh
                obtain ⟨l4, bt⟩ := T18.out.cells
                go_wp2_with fail
                (with_reducible refine (same_eq Ab Av cb cv b.s.L.length b.s.L.length b.s.L _ R18.out.lines.rd V18.out.lines.rd (by omega) rfl rfl).mono ?_)
                rintro e w19 ⟨rfl, m19, rfl⟩
                go_wp2_with fail
                (with_reducible refine (same_eq At An ct cn c5.s.L.length c5.s.L.length c5.s.L _ (T18.out.lines.rd.grows (by repeat' first | exact Grows.refl _ | refine Grows.more ?_ _ | refine Grows.alloc ?_ _ | refine Grows.drew ?_)) (N18.out.lines.rd.grows (by repeat' first | exact Grows.refl _ | refine Grows.more ?_ _ | refine Grows.alloc ?_ _ | refine Grows.drew ?_)) (by omega) rfl rfl).mono ?_)
                rintro e w20 ⟨rfl, m20, rfl⟩
                go_wp2_with fail
                (with_reducible refine (same_eq B2 Ab k2 cb b.s.L.length b.s.L.length b.s.L _ (B18.out.grows (by repeat' first | exact Grows.refl _ | refine Grows.more ?_ _ | refine Grows.alloc ?_ _ | refine Grows.drew ?_)) (R18.out.lines.rd.grows (by repeat' first | exact Grows.refl _ | refine Grows.more ?_ _ | refine Grows.alloc ?_ _ | refine Grows.drew ?_)) (by omega) rfl rfl).mono ?_)
                rintro e w21 ⟨rfl, m21, rfl⟩
                go_wp2_with fail
                (with_reducible refine (same_eq B3 At k3 ct c5.s.L.length c5.s.L.length c5.s.L _ (Y18.out.grows (by repeat' first | exact Grows.refl _ | refine Grows.more ?_ _ | refine Grows.alloc ?_ _ | refine Grows.drew ?_)) (T18.out.lines.rd.grows (by repeat' first | exact Grows.refl _ | refine Grows.more ?_ _ | refine Grows.alloc ?_ _ | refine Grows.drew ?_)) (by omega) rfl rfl).mono ?_)
                rintro e w22 ⟨rfl, m22, rfl⟩
                go_wp2_with fail
                (with_reducible refine (lives19 _).mono ?_)
                rintro e w23 ⟨rfl, hg⟩
                have G23 := Lib.hid ((C18.out.grown.trans (by repeat' first | exact Grows.refl _ | refine Grows.more ?_ _ | refine Grows.alloc ?_ _ | refine Grows.drew ?_)).trans hg)
                clear hg C18
                go_wp2_with fail
                go_ret
                exact ⟨rfl, G23.out⟩
        · have H0 := Lib.hid h0
          clear h0
          go_wp2_with fail
          (with_reducible refine (made_no A A2 cap cap2 l L W HL.out H0.out (by omega)).mono ?_)
          rintro e w1 ⟨rfl, m1, rfl⟩
          go_wp2_with fail
          (with_reducible refine (coNew_no A cap l _ (HL.out.grows (by repeat' first | exact Grows.refl _ | refine Grows.more ?_ _ | refine Grows.alloc ?_ _ | refine Grows.drew ?_)) H0.out (by omega)).mono ?_)
          rintro e w2 ⟨rfl, m2, rfl⟩
          go_wp2_with fail
          (with_reducible refine (lives19 _).mono ?_)
          rintro e w3 ⟨rfl, hg⟩
          have G3 := Lib.hid (Grows.trans (by repeat' first | exact Grows.refl _ | refine Grows.more ?_ _ | refine Grows.alloc ?_ _ | refine Grows.drew ?_) hg : Grows W w3)
          clear hg
          go_wp2_with fail
          go_ret
          exact ⟨rfl, G3.out⟩
end Go.Proofs.Ythanghgfakibnaa
