/-
  The law CoreAbort.
-/
import Derived.Test.YthanghgfakibnaaPk45
import Derived.Test.YthanghgfakibnaaPk47
namespace Go.Proofs.Ythanghgfakibnaa
open Go.RowKit

set_option maxRecDepth 3000 in
theorem viC_g0 (v : Value) (cur : Int) (ms : List Int) (last : Value) (h : 0 < (viC v cur ms last).size) : (viC v cur ms last)[0]'h = v := by
  have := viC_0 v cur ms last
  rw [Array.getElem?_eq_getElem h] at this
  exact Option.some.inj this
set_option maxRecDepth 3000 in
theorem viC_g1 (v : Value) (cur : Int) (ms : List Int) (last : Value) (h : 1 < (viC v cur ms last).size) : (viC v cur ms last)[1]'h = .int .i64 cur := by
  have := viC_1 v cur ms last
  rw [Array.getElem?_eq_getElem h] at this
  exact Option.some.inj this
set_option maxRecDepth 3000 in
theorem Rat.len {X K : Nat → Prop} {g p : Nat} {c : CoV} {w : World} (h : Rat X K g c w p) (k : Int) : (rget c.regs k).1.d.length ≤ 1000000 := by
  obtain ⟨ok, tv, uv, wv, hv, dv, r, r2, D, hM, hR, -⟩ := h
  unfold rget
  cases hs : c.regs (lowL k) with
  | none => simp [rg0]
  | some x => have := (rcheck_fits (hR.good _ _ hs)).1; simp; omega
attribute [local go_sem ↓] zeroView2 ldMarks_eq zeroReg
attribute [local go_sem] zv_0 zv_1 zv_28 zv_size zv_one zv_g0 zv_g1 zv_g28 viC_size viC_one viC_marks viC_0 viC_1 viC_g0 viC_g1 equal23 loadMarks loadMarks_if
set_option maxRecDepth 3000 in
set_option maxHeartbeats 4000000 in
theorem coreAbort_big (A A2 A3 : Option Addr) (cap cap2 cap3 : Nat) (l : List (List UInt8)) (L S : List AcC) (w : World) (hl : Came w A cap l) (hL : AcsIn w A2 L) (hS : AcsIn w A3 S) (hb : bigL l 20 = true ∨ bigAcs L 40 = true ∨ bigAcs S 20 = true) :
    Calls Try.prog 5 #[.slice A l.length cap, .slice A2 L.length cap2, .slice A3 S.length cap3] w fun e w' => e = .returned (.bool true) ∧ Grows w w' := by
  have HL := Lib.hid hl
  have HA := Lib.hid hL
  have HS := Lib.hid hS
  clear hl hL hS
  cases h1 : bigL l 20 with
  | true =>
    have H1 := Lib.hid h1
    clear h1 hb
    go_enter Try.func5, Try.ntmps5
    go_wp2_with fail
    (with_reducible refine (beyond20 A cap l _ HL.out.rd HL.out.len HL.out.each).mono ?_)
    rw [H1.out]
    rintro e w1 ⟨rfl, rfl⟩
    go_wp2_with fail
    (with_reducible refine (lives19 _).mono ?_)
    rintro e w1 ⟨rfl, hg⟩
    have HG := Lib.hid hg
    clear hg
    go_wp2_with fail
    go_ret
    exact ⟨rfl, HG.out⟩
  | false =>
    have H1 := Lib.hid h1
    cases h2 : bigAcs L 40 with
    | true =>
      have H2 := Lib.hid h2
      clear h1 h2 hb
      go_enter Try.func5, Try.ntmps5
      go_wp2_with fail
      (with_reducible refine (beyond20 A cap l _ HL.out.rd HL.out.len HL.out.each).mono ?_)
      rw [H1.out]
      rintro e w1 ⟨rfl, rfl⟩
      go_wp2_with fail
      (with_reducible refine (beyondAc A2 cap2 L 40 40 rfl _ HA.out (by omega)).mono ?_)
      rw [H2.out]
      rintro e w1 ⟨rfl, rfl⟩
      go_wp2_with fail
      (with_reducible refine (lives19 _).mono ?_)
      rintro e w1 ⟨rfl, hg⟩
      have HG := Lib.hid hg
      clear hg
      go_wp2_with fail
      go_ret
      exact ⟨rfl, HG.out⟩
    | false =>
      have H2 := Lib.hid h2
      have H3 : Hid (bigAcs S 20 = true) := Lib.hid (by simpa [h1, h2] using hb)
      clear h1 h2 hb
      go_enter Try.func5, Try.ntmps5
      go_wp2_with fail
      (with_reducible refine (beyond20 A cap l _ HL.out.rd HL.out.len HL.out.each).mono ?_)
      rw [H1.out]
      rintro e w1 ⟨rfl, rfl⟩
      go_wp2_with fail
      (with_reducible refine (beyondAc A2 cap2 L 40 40 rfl _ HA.out (by omega)).mono ?_)
      rw [H2.out]
      rintro e w1 ⟨rfl, rfl⟩
      go_wp2_with fail
      (with_reducible refine (beyondAc A3 cap3 S 20 20 rfl _ HS.out (by omega)).mono ?_)
      rw [H3.out]
      rintro e w1 ⟨rfl, rfl⟩
      go_wp2_with fail
      (with_reducible refine (lives19 _).mono ?_)
      rintro e w1 ⟨rfl, hg⟩
      have HG := Lib.hid hg
      clear hg
      go_wp2_with fail
      go_ret
      exact ⟨rfl, HG.out⟩
set_option maxRecDepth 3000 in
set_option maxHeartbeats 2000000 in
theorem coreAbort_no (A A2 A3 : Option Addr) (cap cap2 cap3 : Nat) (l : List (List UInt8)) (L S : List AcC) (w : World) (hl : Came w A cap l) (hL : AcsIn w A2 L) (hS : AcsIn w A3 S) (h1 : bigL l 20 = false) (h2 : bigAcs L 40 = false) (h3 : bigAcs S 20 = false) (h0 : lcheckV l ≠ 0) :
    Calls Try.prog 5 #[.slice A l.length cap, .slice A2 L.length cap2, .slice A3 S.length cap3] w fun e w' => e = .returned (.bool true) ∧ Grows w w' := by
  have HL := Lib.hid hl
  have HA := Lib.hid hL
  have HS := Lib.hid hS
  have H0 := Lib.hid h0
  have H1 := Lib.hid h1
  have H2 := Lib.hid h2
  have H3 := Lib.hid h3
  have hl20 : l.length ≤ 20 := (bigL_no h1).1
  clear hl hL hS h0 h1 h2 h3
  go_enter Try.func5, Try.ntmps5
  go_wp2_with fail
  (with_reducible refine (beyond20 A cap l _ HL.out.rd HL.out.len HL.out.each).mono ?_)
  rw [H1.out]
  rintro e w1 ⟨rfl, rfl⟩
  go_wp2_with fail
  (with_reducible refine (beyondAc A2 cap2 L 40 40 rfl _ HA.out (by omega)).mono ?_)
  rw [H2.out]
  rintro e w1 ⟨rfl, rfl⟩
  go_wp2_with fail
  (with_reducible refine (beyondAc A3 cap3 S 20 20 rfl _ HS.out (by omega)).mono ?_)
  rw [H3.out]
  rintro e w1 ⟨rfl, rfl⟩
  go_wp2_with fail
  (with_reducible refine (made_no A A2 cap cap2 l L _ HL.out H0.out (by omega)).mono ?_)
  rintro e w1 ⟨rfl, m1, rfl⟩
  go_wp2_with fail
  (with_reducible refine (made_no A A2 cap cap2 l L _ (HL.out.grows (by repeat' first | exact Grows.refl _ | refine Grows.more ?_ _ | refine Grows.alloc ?_ _ | refine Grows.drew ?_ | refine Grows.drewN ?_ _)) H0.out (by omega)).mono ?_)
  rintro e w2 ⟨rfl, m2, rfl⟩
  go_wp2_with fail
  (with_reducible refine (coNew_no A cap l _ (HL.out.grows (by repeat' first | exact Grows.refl _ | refine Grows.more ?_ _ | refine Grows.alloc ?_ _ | refine Grows.drew ?_ | refine Grows.drewN ?_ _)) H0.out (by omega)).mono ?_)
  rintro e w3 ⟨rfl, m3, rfl⟩
  go_wp2_with fail
  (with_reducible refine (lives19 _).mono ?_)
  rintro e w4 ⟨rfl, hg⟩
  have G4 : Hid (Grows w w4) := Lib.hid (Grows.trans (by repeat' first | exact Grows.refl _ | refine Grows.more ?_ _ | refine Grows.alloc ?_ _ | refine Grows.drew ?_ | refine Grows.drewN ?_ _) hg)
  clear hg
  go_wp2_with fail
  go_ret
  exact ⟨rfl, G4.out⟩
set_option maxRecDepth 3000 in
set_option maxHeartbeats 32000000 in
theorem coreAbort_yes (A A2 A3 : Option Addr) (cap cap2 cap3 : Nat) (l : List (List UInt8)) (L S : List AcC) (w : World) (hl : Came w A cap l) (hL : AcsIn w A2 L) (hS : AcsIn w A3 S) (h1 : bigL l 20 = false) (h2 : bigAcs L 40 = false) (h3 : bigAcs S 20 = false) (h0 : lcheckV l = 0) :
    Calls Try.prog 5 #[.slice A l.length cap, .slice A2 L.length cap2, .slice A3 S.length cap3] w fun e w' => e = .returned (.bool true) ∧ Grows w w' := by
  have HL := Lib.hid hl
  have HA := Lib.hid hL
  have HS := Lib.hid hS
  have H0 := Lib.hid h0
  have H1 := Lib.hid h1
  have H2 := Lib.hid h2
  have H3 := Lib.hid h3
  have HB := Lib.hid (bigAcs_no h3)
  have hS20 : S.length ≤ 20 := (bigAcs_no h3).1
  clear hl hL hS h0 h1 h2 h3
  go_enter Try.func5, Try.ntmps5
  go_wp2_with fail
  (with_reducible refine (beyond20 A cap l _ HL.out.rd HL.out.len HL.out.each).mono ?_)
  rw [H1.out]
  rintro e w1 ⟨rfl, rfl⟩
  go_wp2_with fail
  (with_reducible refine (beyondAc A2 cap2 L 40 40 rfl _ HA.out (by omega)).mono ?_)
  rw [H2.out]
  rintro e w1 ⟨rfl, rfl⟩
  go_wp2_with fail
  (with_reducible refine (beyondAc A3 cap3 S 20 20 rfl _ HS.out (by omega)).mono ?_)
  rw [H3.out]
  rintro e w1 ⟨rfl, rfl⟩
  go_wp2_with fail
  (with_reducible refine (made_yes A A2 cap cap2 l L w _ (fun _ => False) (fun _ h => h.elim) (Grows.refl _) HL.out H0.out HA.out H2.out).mono ?_)
  rintro e w1 ⟨g, K1, rfl, hC, -, hg⟩
  have C1 := Lib.hid hC
  have G1 := Lib.hid hg
  clear hC hg
  go_wp2_with fail
  (with_reducible refine (made_yes A A2 cap cap2 l L w _ K1 C1.out.lt G1.out (HL.out.grows G1.out) H0.out (HA.out.grows G1.out) H2.out).mono ?_)
  rintro e w2 ⟨g2, K2, rfl, hC, hK, hg⟩
  have Z2 := Lib.hid (Two.start C1.out hg hC hK)
  have W2 := Lib.hid (madeV_was l L)
  obtain ⟨b, hb⟩ : ∃ b, madeV l L = b := ⟨_, rfl⟩
  rw [hb] at Z2 W2
  clear hC hg hK C1 G1 hb
  go_wp2_with fail
  (with_reducible refine (co_begin Z2.out.a (coBegin b).1 0 (by rw [coBegin_none W2.out])).mono ?_)
  rintro e w4 ⟨rfl, K4, hC, hst⟩
  have Z4 := Lib.hid (Z2.out.stepA hC hst)
  have I4 := Lib.hid (InAb.start W2.out)
  have D4 : Hid ((coBegin b).1.did.length = 0) := Lib.hid (by rw [coBegin_none W2.out]; rfl)
  obtain ⟨c4, hc4⟩ : ∃ c, (coBegin b).1 = c := ⟨_, rfl⟩
  rw [hc4] at Z4 I4 D4
  clear hC hst Z2 hc4
  go_wp2_with fail
  go_loopg [11] S.length (fun q i wr => ∃ (k : Nat) (K : Nat → Prop), q + k = S.length ∧ i = .int .i64 k ∧ Two w K K2 g g2 (chActs c4 (S.take k)) b wr)
  case atStart => exact ⟨0, K4, by omega, rfl, Z4.out⟩
  case round =>
    obtain ⟨k, K, hq, rfl, hZ⟩ := hrel
    have HQ := Lib.hid hq
    have Z := Lib.hid hZ
    have hkl : k ≤ S.length := by omega
    have hg : Grows w wr := hZ.a.grown
    clear hq hZ
    by_cases h2 : k < S.length
    · have hAw := HS.out.grows hg
      obtain ⟨b0, o0, rfl, hb, e0, e1, e2, e3, e4, e5, e6⟩ := hAw.rd.ac k h2
      have hS := Lib.hid (hAw.each _ (List.getElem_mem h2))
      have hI : Hid (LRd (fun b => b < wr.heap.size) wr S[k].A S[k].cap S[k].ins) := Lib.hid (lrd_came hS.out.came)
      have HF := Lib.hid (HB.out.2 _ (List.getElem_mem h2))
      have hdid : Hid ((chActs c4 (S.take k)).did.length ≤ 1000000) := Lib.hid (by
        have := chActs_did c4 (S.take k)
        rw [D4.out, List.length_take] at this
        omega)
      have k0 : (0 : Int) ≤ (k : Int) := by omega
      have k1 : (k : Int) < (S.length : Int) := by omega
      have HT := Lib.hid (chActs_take c4 S k h2)
      have hb0 : InHeap b0 wr := hb
      obtain ⟨n, hn⟩ : ∃ n : Nat, S[k].kind = n := ⟨S[k].kind.toNat, by have := hS.out.kind; omega⟩
      obtain ⟨u, hu⟩ : ∃ u : Nat, S[k].letter = u := ⟨S[k].letter.toNat, by have := hS.out.letter; omega⟩
      have hn256 : n < 256 := by have := hS.out.kind; omega
      rw [hn] at e0
      have HN := Lib.hid hn
      have HU := Lib.hid hu
      obtain ⟨p, hp⟩ := Z.out.a.rat
      have HP := Lib.hid hp
      clear hAw hn hu hp
      by_cases t1 : n % 12 = 1
      · have t1' : ((n : Int) % 12 == 1) = true := by rw [beq_iff_eq]; omega
        have hM : (S[k].kind % 12 = 1) := by rw [HN.out]; omega
        clear t1
        go_wp2_with fail
        (with_reducible refine (co_splice (Z.out.a.grows (by repeat' first | exact Grows.refl _ | refine Grows.more ?_ _ | refine Grows.alloc ?_ _ | refine Grows.drew ?_ | refine Grows.drewN ?_ _)) S[k].at_ S[k].del S[k].A S[k].ins.length S[k].cap S[k].ins rfl hS.out.at_ hS.out.del (hI.out.grows (by repeat' first | exact Grows.refl _ | refine Grows.more ?_ _ | refine Grows.alloc ?_ _ | refine Grows.drew ?_ | refine Grows.drewN ?_ _)) (fun s hs => by have := HF.out.2.1 s hs; omega) (by have := HF.out.1; omega) hdid.out (coSplice (chActs c4 (S.take k)) S[k].sp).1 (coSplice (chActs c4 (S.take k)) S[k].sp).2 rfl).mono ?_)
        rintro e w2 ⟨rfl, K5, hC, hst⟩
        have Z5 := (Z.out.grows (by repeat' first | exact Grows.refl _ | refine Grows.more ?_ _ | refine Grows.alloc ?_ _ | refine Grows.drew ?_ | refine Grows.drewN ?_ _)).stepA hC hst
        have hE : (coSplice (chActs c4 (S.take k)) S[k].sp).1 = chActs c4 (S.take (k + 1)) := by rw [HT.out]; simp [chAct, hM]
        rw [hE] at Z5
        have Z6 := Lib.hid Z5
        clear hC hst hE Z5
        go_wp2_with fail
        go_roundg (gk - 1)
        case measure => have := HQ.out; omega
        case rel => exact ⟨k + 1, K5, by have := HQ.out; omega, by go_num, Z6.out⟩
      by_cases t2 : n % 12 = 2
      · have t1' : ((n : Int) % 12 == 1) = false := by rw [beq_eq_false_iff_ne]; omega
        have t2' : ((n : Int) % 12 == 2) = true := by rw [beq_iff_eq]; omega
        have hM : (S[k].kind % 12 = 2) := by rw [HN.out]; omega
        clear t1 t2
        go_wp2_with fail
        (with_reducible refine (co_splice (Z.out.a.grows (by repeat' first | exact Grows.refl _ | refine Grows.more ?_ _ | refine Grows.alloc ?_ _ | refine Grows.drew ?_ | refine Grows.drewN ?_ _)) S[k].at_ S[k].del S[k].A S[k].ins.length S[k].cap S[k].ins rfl hS.out.at_ hS.out.del (hI.out.grows (by repeat' first | exact Grows.refl _ | refine Grows.more ?_ _ | refine Grows.alloc ?_ _ | refine Grows.drew ?_ | refine Grows.drewN ?_ _)) (fun s hs => by have := HF.out.2.1 s hs; omega) (by have := HF.out.1; omega) hdid.out (coSplice (chActs c4 (S.take k)) S[k].sp).1 (coSplice (chActs c4 (S.take k)) S[k].sp).2 rfl).mono ?_)
        rintro e w2 ⟨rfl, K5, hC, hst⟩
        have Z5 := (Z.out.grows (by repeat' first | exact Grows.refl _ | refine Grows.more ?_ _ | refine Grows.alloc ?_ _ | refine Grows.drew ?_ | refine Grows.drewN ?_ _)).stepA hC hst
        have hE : (coSplice (chActs c4 (S.take k)) S[k].sp).1 = chActs c4 (S.take (k + 1)) := by rw [HT.out]; simp [chAct, hM]
        rw [hE] at Z5
        have Z6 := Lib.hid Z5
        clear hC hst hE Z5
        go_wp2_with fail
        go_roundg (gk - 1)
        case measure => have := HQ.out; omega
        case rel => exact ⟨k + 1, K5, by have := HQ.out; omega, by go_num, Z6.out⟩
      by_cases t3 : n % 12 = 3
      · have t1' : ((n : Int) % 12 == 1) = false := by rw [beq_eq_false_iff_ne]; omega
        have t2' : ((n : Int) % 12 == 2) = false := by rw [beq_eq_false_iff_ne]; omega
        have t3' : ((n : Int) % 12 == 3) = true := by rw [beq_iff_eq]; omega
        have hM : (S[k].kind % 12 = 3) := by rw [HN.out]; omega
        clear t1 t2 t3
        go_wp2_with fail
        (with_reducible refine (co_splice (Z.out.a.grows (by repeat' first | exact Grows.refl _ | refine Grows.more ?_ _ | refine Grows.alloc ?_ _ | refine Grows.drew ?_ | refine Grows.drewN ?_ _)) S[k].at_ S[k].del S[k].A S[k].ins.length S[k].cap S[k].ins rfl hS.out.at_ hS.out.del (hI.out.grows (by repeat' first | exact Grows.refl _ | refine Grows.more ?_ _ | refine Grows.alloc ?_ _ | refine Grows.drew ?_ | refine Grows.drewN ?_ _)) (fun s hs => by have := HF.out.2.1 s hs; omega) (by have := HF.out.1; omega) hdid.out (coSplice (chActs c4 (S.take k)) S[k].sp).1 (coSplice (chActs c4 (S.take k)) S[k].sp).2 rfl).mono ?_)
        rintro e w2 ⟨rfl, K5, hC, hst⟩
        have Z5 := (Z.out.grows (by repeat' first | exact Grows.refl _ | refine Grows.more ?_ _ | refine Grows.alloc ?_ _ | refine Grows.drew ?_ | refine Grows.drewN ?_ _)).stepA hC hst
        have hE : (coSplice (chActs c4 (S.take k)) S[k].sp).1 = chActs c4 (S.take (k + 1)) := by rw [HT.out]; simp [chAct, hM]
        rw [hE] at Z5
        have Z6 := Lib.hid Z5
        clear hC hst hE Z5
        go_wp2_with fail
        go_roundg (gk - 1)
        case measure => have := HQ.out; omega
        case rel => exact ⟨k + 1, K5, by have := HQ.out; omega, by go_num, Z6.out⟩
      by_cases t7 : n % 12 = 7
      · have t1' : ((n : Int) % 12 == 1) = false := by rw [beq_eq_false_iff_ne]; omega
        have t2' : ((n : Int) % 12 == 2) = false := by rw [beq_eq_false_iff_ne]; omega
        have t3' : ((n : Int) % 12 == 3) = false := by rw [beq_eq_false_iff_ne]; omega
        have t7' : ((n : Int) % 12 == 7) = true := by rw [beq_iff_eq]; omega
        have hM : (S[k].kind % 12 = 7) := by rw [HN.out]; omega
        clear t1 t2 t3 t7
        go_wp2_with fail
        (with_reducible refine (co_go (Z.out.a.grows (by repeat' first | exact Grows.refl _ | refine Grows.more ?_ _ | refine Grows.alloc ?_ _ | refine Grows.drew ?_ | refine Grows.drewN ?_ _)) S[k].line hS.out.line (coGo (chActs c4 (S.take k)) S[k].line).1 (coGo (chActs c4 (S.take k)) S[k].line).2 rfl).mono ?_)
        rintro e w2 ⟨rfl, K5, hC, hst⟩
        have Z5 := (Z.out.grows (by repeat' first | exact Grows.refl _ | refine Grows.more ?_ _ | refine Grows.alloc ?_ _ | refine Grows.drew ?_ | refine Grows.drewN ?_ _)).stepA hC hst
        have hE : (coGo (chActs c4 (S.take k)) S[k].line).1 = chActs c4 (S.take (k + 1)) := by rw [HT.out]; simp [chAct, hM]
        rw [hE] at Z5
        have Z6 := Lib.hid Z5
        clear hC hst hE Z5
        go_wp2_with fail
        go_roundg (gk - 1)
        case measure => have := HQ.out; omega
        case rel => exact ⟨k + 1, K5, by have := HQ.out; omega, by go_num, Z6.out⟩
      by_cases t8 : n % 12 = 8
      · have t1' : ((n : Int) % 12 == 1) = false := by rw [beq_eq_false_iff_ne]; omega
        have t2' : ((n : Int) % 12 == 2) = false := by rw [beq_eq_false_iff_ne]; omega
        have t3' : ((n : Int) % 12 == 3) = false := by rw [beq_eq_false_iff_ne]; omega
        have t7' : ((n : Int) % 12 == 7) = false := by rw [beq_eq_false_iff_ne]; omega
        have t8' : ((n : Int) % 12 == 8) = true := by rw [beq_iff_eq]; omega
        have hM : (S[k].kind % 12 = 8) := by rw [HN.out]; omega
        clear t1 t2 t3 t7 t8
        go_wp2_with fail
        (with_reducible refine (co_mark (Z.out.a.grows (by repeat' first | exact Grows.refl _ | refine Grows.more ?_ _ | refine Grows.alloc ?_ _ | refine Grows.drew ?_ | refine Grows.drewN ?_ _)) S[k].letter S[k].line hS.out.letter.1 hS.out.letter.2 (coMark (chActs c4 (S.take k)) S[k].letter S[k].line).1 (coMark (chActs c4 (S.take k)) S[k].letter S[k].line).2 rfl).mono ?_)
        rintro e w2 ⟨rfl, K5, hC, hst⟩
        have Z5 := (Z.out.grows (by repeat' first | exact Grows.refl _ | refine Grows.more ?_ _ | refine Grows.alloc ?_ _ | refine Grows.drew ?_ | refine Grows.drewN ?_ _)).stepA hC hst
        have hE : (coMark (chActs c4 (S.take k)) S[k].letter S[k].line).1 = chActs c4 (S.take (k + 1)) := by rw [HT.out]; simp [chAct, hM]
        rw [hE] at Z5
        have Z6 := Lib.hid Z5
        clear hC hst hE Z5
        go_wp2_with fail
        go_roundg (gk - 1)
        case measure => have := HQ.out; omega
        case rel => exact ⟨k + 1, K5, by have := HQ.out; omega, by go_num, Z6.out⟩
      by_cases t9 : n % 12 = 9
      · have t1' : ((n : Int) % 12 == 1) = false := by rw [beq_eq_false_iff_ne]; omega
        have t2' : ((n : Int) % 12 == 2) = false := by rw [beq_eq_false_iff_ne]; omega
        have t3' : ((n : Int) % 12 == 3) = false := by rw [beq_eq_false_iff_ne]; omega
        have t7' : ((n : Int) % 12 == 7) = false := by rw [beq_eq_false_iff_ne]; omega
        have t8' : ((n : Int) % 12 == 8) = false := by rw [beq_eq_false_iff_ne]; omega
        have t9' : ((n : Int) % 12 == 9) = true := by rw [beq_iff_eq]; omega
        have hM : (S[k].kind % 12 = 9) := by rw [HN.out]; omega
        clear t1 t2 t3 t7 t8 t9
        have hft : Hid (Rg.fits ⟨[S[k].text], false⟩) := Lib.hid ⟨by simp, fun s hs => by simp at hs; subst hs; have := HF.out.2.2; omega⟩
        have nK : ¬ K wr.heap.size := fun h => Nat.lt_irrefl _ (Z.out.a.lt _ h)
        go_wp2_with fail
        go_region_held3 (fun w' => w'.cell? ⟨wr.heap.size, 5, none⟩ = some (.int .u8 S[k].letter) ∧ w'.cell? ⟨wr.heap.size, 6, none⟩ = some (.string (tx S[k].text)))
          (first | (simp [go_sem, x5, x6]; done) | (simp [go_sem]; done))
          (first
            | (go_at_call 20; (refine Calls.mono (rat_regs (HP.out.grows ?_)) ?_); (repeat' first | exact Grows.refl _ | refine Grows.more ?_ _ | refine Grows.alloc ?_ _ | refine Grows.drew ?_ | refine Grows.drewN ?_ _); rintro e w2 ⟨rfl, hw⟩; have hw := hw.symm; subst hw)
            | (go_at_call 30; (refine Calls.mono (rat_set (okx := fun _ => True) (Z.out.a.grows ?_) (HP.out.grows ?_) S[k].letter u HU.out _ 1 1 false ⟨[S[k].text], false⟩ rfl rfl (lrd_one ?_ trivial) hft.out) ?_); (repeat' first | exact Grows.refl _ | refine Grows.more ?_ _ | refine Grows.alloc ?_ _ | refine Grows.drew ?_ | refine Grows.drewN ?_ _); (focus (simp [go_sem]; done)); rintro e w2 ⟨rfl, hC, hst⟩; have Z5 := (Z.out.grows (by repeat' first | exact Grows.refl _ | refine Grows.more ?_ _ | refine Grows.alloc ?_ _ | refine Grows.drew ?_ | refine Grows.drewN ?_ _)).stepA hC hst; have x5 := (hst.chg.cell (a := ⟨wr.heap.size, 5, none⟩) (by first | (simp; done) | (simp; omega)) nK).trans (by simp [go_sem] : _ = some (Value.int .u8 S[k].letter)); have x6 := (hst.chg.cell (a := ⟨wr.heap.size, 6, none⟩) (by first | (simp; done) | (simp; omega)) nK).trans (by simp [go_sem] : _ = some (Value.string (tx S[k].text)))))
        all_goals
          have hE : (coSet (chActs c4 (S.take k)) S[k].letter ⟨[S[k].text], false⟩).1 = chActs c4 (S.take (k + 1)) := by rw [HT.out]; simp [chAct, hM, HU.out]
          rw [← HU.out, hE] at Z5
          have Z6 := Lib.hid Z5
          clear hC hst hE Z5
          go_wp2_with fail
          go_roundg (gk - 1)
          case measure => have := HQ.out; omega
          case rel => exact ⟨k + 1, K, by have := HQ.out; omega, by go_num, Z6.out⟩
      have t1' : ((n : Int) % 12 == 1) = false := by rw [beq_eq_false_iff_ne]; omega
      have t2' : ((n : Int) % 12 == 2) = false := by rw [beq_eq_false_iff_ne]; omega
      have t3' : ((n : Int) % 12 == 3) = false := by rw [beq_eq_false_iff_ne]; omega
      have t7' : ((n : Int) % 12 == 7) = false := by rw [beq_eq_false_iff_ne]; omega
      have t8' : ((n : Int) % 12 == 8) = false := by rw [beq_eq_false_iff_ne]; omega
      have t9' : ((n : Int) % 12 == 9) = false := by rw [beq_eq_false_iff_ne]; omega
      have hE : Hid (chActs c4 (S.take k) = chActs c4 (S.take (k + 1))) := Lib.hid (by rw [HT.out]; unfold chAct; rw [HN.out]; rw [if_neg (by omega), if_neg (by omega), if_neg (by omega), if_neg (by omega)])
      clear t1 t2 t3 t7 t8 t9
      go_wp2_with fail
      go_roundg (gk - 1)
      case measure => have := HQ.out; omega
      case rel => exact ⟨k + 1, K, by have := HQ.out; omega, by go_num, (hE.out ▸ Z.out).grows (by repeat' first | exact Grows.refl _ | refine Grows.more ?_ _ | refine Grows.alloc ?_ _ | refine Grows.drew ?_ | refine Grows.drewN ?_ _)⟩
    · have hk : k = S.length := by omega
      subst hk
      have I5 : Hid (InAb b (chActs c4 (S.take S.length))) := Lib.hid (I4.out.acts _)
      obtain ⟨c5, hc5⟩ : ∃ c, chActs c4 (S.take S.length) = c := ⟨_, rfl⟩
      rw [hc5] at Z I5
      obtain ⟨W5, hW5⟩ : ∃ z, z = wr := ⟨_, rfl⟩
      subst hW5
      clear hc5 HQ I4 D4 Z4
      go_wp2_with fail
      (with_reducible refine (co_abort Z.out.a).mono ?_)
      rintro e w6 ⟨rfl, hC, hst⟩
      have Z6 := Lib.hid (Z.out.stepA hC hst)
      have A6 := Lib.hid (I5.out.abort W2.out)
      obtain ⟨c6, hc6⟩ : ∃ c, coAbort c5 = c := ⟨_, rfl⟩
      rw [hc6] at Z6 A6
      clear hC hst Z I5 hc6 W2
      go_wp2_with fail
      go_loopg [13] 2 (fun q i wr => ∃ (k : Nat) (c o : CoV), q + k = 2 ∧ i = .int .i64 k ∧ Alike c o ∧ Two w K K2 g g2 c o wr)
      case atStart => exact ⟨0, c6, b, rfl, rfl, A6.out, Z6.out⟩
      case round =>
        obtain ⟨t, c, o, hq, rfl, hA, hZ⟩ := hrel
        have HT := Lib.hid hq
        have A7 := Lib.hid hA
        have Z7 := Lib.hid hZ
        have ht2 : t ≤ 2 := by omega
        obtain ⟨W7, hW7⟩ : ∃ z, z = wr := ⟨_, rfl⟩
        subst hW7
        obtain ⟨gt, hgt⟩ : ∃ z, z = gk := ⟨_, rfl⟩
        subst hgt
        clear hq hA hZ Z6 A6
        by_cases h2 : t < 2
        · have h2' : (t : Int) < 2 := by omega
          have m26 := Z7.out.b.good.s.many
          have l2000 := Z7.out.b.good.s.len
          go_wp2_with fail
          (with_reducible refine (view_s Z7.out.a o.s A7.out.s).mono ?_)
          rintro e w8 ⟨Aa, ca, rfl, hv, hg⟩
          have Z8 := Lib.hid (Z7.out.grows hg)
          have La := Lib.hid hv
          clear hv hg Z7
          go_wp2_with fail
          (with_reducible refine (view_s Z8.out.b o.s rfl).mono ?_)
          rintro e w9 ⟨Ab, cb, rfl, hv, hg⟩
          have Z9 := Lib.hid (Z8.out.grows hg)
          have La9 := Lib.hid (La.out.grows hg)
          have Lb9 := Lib.hid hv
          clear hv hg Z8 La
          go_wp2_with fail
          (with_reducible refine (same_eq Aa Ab ca cb o.s.L.length o.s.L.length o.s.L _ (La9.out.rd.grows (by repeat' first | exact Grows.refl _ | refine Grows.more ?_ _ | refine Grows.alloc ?_ _ | refine Grows.drew ?_ | refine Grows.drewN ?_ _)) (Lb9.out.rd.grows (by repeat' first | exact Grows.refl _ | refine Grows.more ?_ _ | refine Grows.alloc ?_ _ | refine Grows.drew ?_ | refine Grows.drewN ?_ _)) (by omega) rfl rfl).mono ?_)
          rintro e w10 ⟨rfl, m10, rfl⟩
          go_wp2_with fail
          (with_reducible refine (co_dirty (Z9.out.a.grows (by repeat' first | exact Grows.refl _ | refine Grows.more ?_ _ | refine Grows.alloc ?_ _ | refine Grows.drew ?_ | refine Grows.drewN ?_ _)) o.dirty A7.out.dirty).mono ?_)
          rintro e w11 ⟨rfl, hw⟩
          have hw := hw.symm
          subst hw
          go_wp2_with fail
          (with_reducible refine (co_dirty (Z9.out.b.grows (by repeat' first | exact Grows.refl _ | refine Grows.more ?_ _ | refine Grows.alloc ?_ _ | refine Grows.drew ?_ | refine Grows.drewN ?_ _)) o.dirty rfl).mono ?_)
          rintro e w11 ⟨rfl, hw⟩
          have hw := hw.symm
          subst hw
          go_wp2_with fail
          go_loopg [16] 256 (fun q i wr => ∃ k : Nat, q + k = 256 ∧ i = .int .i64 k ∧ Two w K K2 g g2 c o wr)
          case atStart => exact ⟨0, rfl, rfl, Z9.out.grows (by repeat' first | exact Grows.refl _ | refine Grows.more ?_ _ | refine Grows.alloc ?_ _ | refine Grows.drew ?_ | refine Grows.drewN ?_ _)⟩
          case round =>
            obtain ⟨k, hq, rfl, hZ⟩ := hrel
            have HQ := Lib.hid hq
            have Z := Lib.hid hZ
            have hk2 : k ≤ 256 := by omega
            obtain ⟨W8, hW8⟩ : ∃ z, z = wr := ⟨_, rfl⟩
            subst hW8
            clear hq hZ
            by_cases h3 : k < 256
            · have h3' : (k : Int) < 256 := by omega
              have hw : IntKind.u8.wrap (k : Int) = k := u8_wrap (by omega) (by omega)
              obtain ⟨p, hp⟩ := Z.out.a.rat
              obtain ⟨p2, hp2⟩ := Z.out.b.rat
              have HP := Lib.hid hp
              have HP2 := Lib.hid hp2
              have hl := Lib.hid (hp2.len k)
              obtain ⟨⟨y, n⟩, hy⟩ : ∃ x, rget o.regs k = x := ⟨_, rfl⟩
              have HY := Lib.hid hy
              rw [hy] at hl
              clear hp hp2 hy
              go_wp2_with fail
              (with_reducible refine (rat_regs HP.out).mono ?_)
              rintro e w12 ⟨rfl, hw2⟩
              have hw2 := hw2.symm
              subst hw2
              go_wp2_with fail
              (with_reducible refine (rat_get Z.out.a HP.out k k rfl y n (by rw [A7.out.regs]; exact HY.out) y.d.length rfl y.whole rfl).mono ?_)
              rintro e w13 ⟨A1, c1, rfl, hL1, m13, rfl⟩
              have L1 := Lib.hid hL1
              clear hL1
              go_wp2_with fail
              (with_reducible refine (rat_regs (HP2.out.grows (by repeat' first | exact Grows.refl _ | refine Grows.more ?_ _ | refine Grows.alloc ?_ _ | refine Grows.drew ?_ | refine Grows.drewN ?_ _))).mono ?_)
              rintro e w14 ⟨rfl, hw2⟩
              have hw2 := hw2.symm
              subst hw2
              go_wp2_with fail
              (with_reducible refine (rat_get (Z.out.b.grows (by repeat' first | exact Grows.refl _ | refine Grows.more ?_ _ | refine Grows.alloc ?_ _ | refine Grows.drew ?_ | refine Grows.drewN ?_ _)) (HP2.out.grows (by repeat' first | exact Grows.refl _ | refine Grows.more ?_ _ | refine Grows.alloc ?_ _ | refine Grows.drew ?_ | refine Grows.drewN ?_ _)) k k rfl y n HY.out y.d.length rfl y.whole rfl).mono ?_)
              rintro e w15 ⟨A4, c4', rfl, hL2, m15, rfl⟩
              have L2 := Lib.hid hL2
              clear hL2
              go_wp2_with fail
              (with_reducible refine (same_lit' y A1 A4 _ _ _ (L1.out.grows (by repeat' first | exact Grows.refl _ | refine Grows.more ?_ _ | refine Grows.alloc ?_ _ | refine Grows.drew ?_ | refine Grows.drewN ?_ _)) (L2.out.grows (by repeat' first | exact Grows.refl _ | refine Grows.more ?_ _ | refine Grows.alloc ?_ _ | refine Grows.drew ?_ | refine Grows.drewN ?_ _)) hl.out).mono ?_)
              rintro e w16 ⟨rfl, m16, rfl⟩
              go_wp2_with fail
              go_roundg (gk - 1)
              case measure => have := HQ.out; omega
              case rel => exact ⟨k + 1, by have := HQ.out; omega, by go_num, Z.out.grows (by repeat' first | exact Grows.refl _ | refine Grows.more ?_ _ | refine Grows.alloc ?_ _ | refine Grows.drew ?_ | refine Grows.drewN ?_ _)⟩
            · have hE := Lib.hid A7.out.back
              go_wp2_with fail
              (with_reducible refine (co_undo Z.out.a (coUndo c).1 (coUndo o).2 _ (by rw [← hE.out.2]) rfl _ rfl).mono ?_)
              rintro e w12 ⟨A1, c1, D1, rfl, -, -, hC, hst⟩
              have Z12 := Lib.hid (Z.out.stepA hC hst)
              clear hC hst Z
              go_wp2_with fail
              (with_reducible refine (co_undo Z12.out.b (coUndo o).1 (coUndo o).2 _ rfl rfl _ rfl).mono ?_)
              rintro e w13 ⟨A4, c2, D2, rfl, -, -, hC, hst⟩
              have Z13 := Lib.hid (Z12.out.stepB hC hst)
              clear hC hst Z12
              go_wp2_with fail
              go_roundg (gt - 1)
              case measure => have := HT.out; omega
              case rel => exact ⟨t + 1, (coUndo c).1, (coUndo o).1, by have := HT.out; omega, by go_num, hE.out.1, Z13.out⟩
        · have ht : t = 2 := by omega
          subst ht
          go_wp2_with fail
          (with_reducible refine (lives19 _).mono ?_)
          rintro e w8 ⟨rfl, hg⟩
          have G8 := Lib.hid (Z7.out.a.grown.trans hg)
          clear hg Z7
          go_wp2_with fail
          go_ret
          exact ⟨rfl, G8.out⟩
set_option maxRecDepth 3000 in
theorem coreAbort_law (A A2 A3 : Option Addr) (cap cap2 cap3 : Nat) (l : List (List UInt8)) (L S : List AcC) (w : World) (hl : Came w A cap l) (hL : AcsIn w A2 L) (hS : AcsIn w A3 S) :
    Calls Try.prog 5 #[.slice A l.length cap, .slice A2 L.length cap2, .slice A3 S.length cap3] w fun e w' => e = .returned (.bool true) ∧ Grows w w' := by
  by_cases hb : bigL l 20 = true ∨ bigAcs L 40 = true ∨ bigAcs S 20 = true
  · exact coreAbort_big A A2 A3 cap cap2 cap3 l L S w hl hL hS hb
  · have h1 : bigL l 20 = false := by simpa using fun h => hb (.inl h)
    have h2 : bigAcs L 40 = false := by simpa using fun h => hb (.inr (.inl h))
    have h3 : bigAcs S 20 = false := by simpa using fun h => hb (.inr (.inr h))
    by_cases h0 : lcheckV l = 0
    · exact coreAbort_yes A A2 A3 cap cap2 cap3 l L S w hl hL hS h1 h2 h3 h0
    · exact coreAbort_no A A2 A3 cap cap2 cap3 l L S w hl hL hS h1 h2 h3 h0
end Go.Proofs.Ythanghgfakibnaa
