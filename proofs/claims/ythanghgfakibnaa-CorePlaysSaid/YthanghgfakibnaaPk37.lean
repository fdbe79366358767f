/-
  Chapter 19's made: a buffer behind acts.
-/
import Derived.Test.YthanghgfakibnaaPk35
import Derived.Test.YthanghgfakibnaaPk36
namespace Go.Proofs.Ythanghgfakibnaa
open Go.RowKit

def AcC.sp (s : AcC) : SpV := ⟨s.at_, s.del, s.ins⟩
/-- What an act leaves. -/
def actV (c : CoV) (s : AcC) : CoV :=
  if s.kind % 12 = 0 then (coBegin c).1 else if s.kind % 12 = 1 ∨ s.kind % 12 = 2 ∨ s.kind % 12 = 3 then (coSplice c s.sp).1 else if s.kind % 12 = 4 then (coEnd c).1 else if s.kind % 12 = 5 then coAbort c else
  if s.kind % 12 = 6 then (coUndo c).1 else if s.kind % 12 = 7 then (coGo c s.line).1 else if s.kind % 12 = 8 then (coMark c s.letter s.line).1 else c
def actsV (c : CoV) (L : List AcC) : CoV := L.foldl actV c
def madeV (l : List (List UInt8)) (L : List AcC) : CoV := (coEnd (actsV (coNew l) L)).1
set_option maxRecDepth 3000 in
theorem actsV_take (c : CoV) (L : List AcC) (k : Nat) (h : k < L.length) : actsV c (L.take (k + 1)) = actV (actsV c (L.take k)) L[k] := by
  unfold actsV
  rw [List.take_add_one, List.getElem?_eq_getElem h, List.foldl_append]
  rfl
set_option maxRecDepth 3000 in
theorem coSplice_did (c : CoV) (x : SpV) : (coSplice c x).1.did.length ≤ c.did.length + 1 := by
  unfold coSplice
  split
  · simp
  · split <;> simp [coSpliced]
set_option maxRecDepth 3000 in
theorem actV_did (c : CoV) (s : AcC) : (actV c s).did.length ≤ c.did.length + 1 := by
  unfold actV
  split
  · unfold coBegin; split <;> simp
  · split
    · exact coSplice_did c _
    · split
      · unfold coEnd; split
        · simp
        · split <;> simp
      · split
        · unfold coAbort; split <;> simp
        · split
          · unfold coUndo; split
            · simp
            · split <;> simp
          · split
            · unfold coGo; split <;> simp
            · split
              · unfold coMark; split <;> simp
              · simp
set_option maxRecDepth 3000 in
theorem actsV_did (c : CoV) (L : List AcC) : (actsV c L).did.length ≤ c.did.length + L.length := by
  unfold actsV
  induction L generalizing c with
  | nil => simp
  | cons s L ih =>
    have := ih (actV c s)
    have := actV_did c s
    simp only [List.foldl_cons, List.length_cons]
    omega
set_option maxRecDepth 3000 in
theorem lrd_came {w : World} {A : Option Addr} {cap : Nat} {d : List (List UInt8)} (h : Came w A cap d) : LRd (fun b => b < w.heap.size) w A cap d := ⟨h.rd, h.nil, h.le, h.cap63, fun hn a e => by
  obtain ⟨b, o, e2, hb, _⟩ := h.rd.2 hn
  rw [e] at e2
  cases e2
  exact hb⟩
section
variable {W w : World} {X K : Nat → Prop} {g : Nat} {c : CoV}
set_option maxRecDepth 3000 in
theorem m_end (h : Co W X K g c w) : Calls Try.prog 24 #[.pointer (some ⟨g, 0, none⟩)] w fun e w' => ∃ v, e = .returned v ∧ Co W X K g (coEnd c).1 w' ∧ Step K K w w' := by
  refine (co_end h (coEnd c).1 (coEnd c).2 rfl _ rfl).mono ?_
  rintro e w' ⟨A, cap, D, rfl, -, -, -, h1, h2⟩
  exact ⟨_, rfl, h1, h2⟩
set_option maxRecDepth 3000 in
theorem m_undo (h : Co W X K g c w) : Calls Try.prog 9 #[.pointer (some ⟨g, 0, none⟩)] w fun e w' => ∃ v, e = .returned v ∧ Co W X K g (coUndo c).1 w' ∧ Step K K w w' := by
  refine (co_undo h (coUndo c).1 (coUndo c).2 _ rfl rfl _ rfl).mono ?_
  rintro e w' ⟨A, cap, D, rfl, -, -, h1, h2⟩
  exact ⟨_, rfl, h1, h2⟩
end
set_option maxRecDepth 3000 in
set_option maxHeartbeats 16000000 in
theorem made_yes (A A2 : Option Addr) (cap cap2 : Nat) (l : List (List UInt8)) (L : List AcC) (W w : World) (X : Nat → Prop) (hX : ∀ b, X b → b < w.heap.size) (hW : Grows W w) (hl : Came w A cap l) (h0 : lcheckV l = 0) (hL : AcsIn w A2 L) (hb : bigAcs L 40 = false) :
    Calls Try.prog 26 #[.slice A l.length cap, .slice A2 L.length cap2] w fun e w' => ∃ g K, e = .returned (.pointer (some ⟨g, 0, none⟩)) ∧ Co W X K g (madeV l L) w' ∧ (∀ b, K b → w.heap.size ≤ b) ∧ Grows w w' := by
  have HX := Lib.hid hX
  have HW := Lib.hid hW
  have HL := Lib.hid hl
  have H0 := Lib.hid h0
  have HA := Lib.hid hL
  have HB := Lib.hid (bigAcs_no hb)
  have hl2 : l.length ≤ 2000 := (lcheckV_good.1 h0).1
  have hl3 : L.length ≤ 40 := (bigAcs_no hb).1
  clear hX hW hl h0 hL hb
  go_enter Try.func26, Try.ntmps26
  go_wp2_with fail
  (with_reducible refine (co_new A l.length cap l _ rfl HL.out H0.out (by omega) X HX.out w (Grows.refl _)).mono ?_)
  rintro e w1 ⟨g, K1, rfl, hC, hK1, hG⟩
  have HC1 := Lib.hid hC
  clear hC hK1 hG
  go_wp2_with fail
  go_loopg [7] L.length (fun q i wr => ∃ (k : Nat) (K : Nat → Prop), q + k = L.length ∧ i = .int .i64 k ∧ Co w X K g (actsV (coNew l) (L.take k)) wr)
  case atStart => exact ⟨0, K1, by omega, rfl, HC1.out⟩
  case round =>
    obtain ⟨k, K, hq, rfl, hC⟩ := hrel
    have HQ := Lib.hid hq
    have HC := Lib.hid hC
    have hkl : k ≤ L.length := by omega
    have hg : Grows w wr := hC.grown
    clear hq hC
    by_cases h2 : k < L.length
    · have hAw := HA.out.grows hg
      obtain ⟨b, o, rfl, hb, e0, e1, e2, e3, e4, e5, e6⟩ := hAw.rd.ac k h2
      have hS := Lib.hid (hAw.each _ (List.getElem_mem h2))
      have hI : Hid (LRd (fun b => b < wr.heap.size) wr L[k].A L[k].cap L[k].ins) := Lib.hid (lrd_came hS.out.came)
      have hfx := HB.out.2 _ (List.getElem_mem h2)
      have hdid : Hid ((actsV (coNew l) (L.take k)).did.length ≤ 1000000) := Lib.hid (by
        have := actsV_did (coNew l) (L.take k)
        have h3 : (coNew l).did.length = 0 := rfl
        rw [h3, List.length_take] at this
        omega)
      have k0 : (0 : Int) ≤ (k : Int) := by omega
      have k1 : (k : Int) < (L.length : Int) := by omega
      have HT := Lib.hid (actsV_take (coNew l) L k h2)
      have hb0 : InHeap b wr := hb
      obtain ⟨n, hn⟩ : ∃ n : Nat, L[k].kind = n := ⟨L[k].kind.toNat, by have := hS.out.kind; omega⟩
      have hn256 : n < 256 := by have := hS.out.kind; omega
      rw [hn] at e0
      have HN := Lib.hid hn
      have HF := Lib.hid hfx
      clear hAw hfx hn
      by_cases t0 : n % 12 = 0
      · have t0' : ((n : Int) % 12 == 0) = true := by rw [beq_iff_eq]; omega
        have hV : Hid (actsV (coNew l) (L.take (k + 1)) = actV (actsV (coNew l) (L.take k)) L[k]) := HT
        have hM : (L[k].kind % 12 = 0) := by rw [HN.out]; omega
        clear t0
        go_wp2_with fail
        (with_reducible refine (co_begin (HC.out.grows (by repeat' first | exact Grows.refl _ | refine Grows.more ?_ _ | refine Grows.alloc ?_ _ | refine Grows.drew ?_)) (coBegin (actsV (coNew l) (L.take k))).1 (coBegin (actsV (coNew l) (L.take k))).2 rfl).mono ?_)
        rintro e w2 ⟨rfl, K2, hC2, -⟩
        have hE : (coBegin (actsV (coNew l) (L.take k))).1 = actsV (coNew l) (L.take (k + 1)) := by rw [hV.out]; simp [actV, hM]
        have HC2 := Lib.hid (hE ▸ hC2)
        clear hC2 hE
        go_wp2_with fail
        go_roundg (gk - 1)
        case measure => have := HQ.out; omega
        case rel => exact ⟨k + 1, K2, by have := HQ.out; omega, by go_num, HC2.out⟩
      by_cases t1 : n % 12 = 1
      · have t0' : ((n : Int) % 12 == 0) = false := by rw [beq_eq_false_iff_ne]; omega
        have t1' : ((n : Int) % 12 == 1) = true := by rw [beq_iff_eq]; omega
        have hV : Hid (actsV (coNew l) (L.take (k + 1)) = actV (actsV (coNew l) (L.take k)) L[k]) := HT
        have hM : (L[k].kind % 12 = 1) := by rw [HN.out]; omega
        clear t0 t1
        go_wp2_with fail
        (with_reducible refine (co_splice (HC.out.grows (by repeat' first | exact Grows.refl _ | refine Grows.more ?_ _ | refine Grows.alloc ?_ _ | refine Grows.drew ?_)) L[k].at_ L[k].del L[k].A L[k].ins.length L[k].cap L[k].ins rfl hS.out.at_ hS.out.del (hI.out.grows (by repeat' first | exact Grows.refl _ | refine Grows.more ?_ _ | refine Grows.alloc ?_ _ | refine Grows.drew ?_)) (fun s hs => by have := HF.out.2.1 s hs; omega) (by have := HF.out.1; omega) hdid.out (coSplice (actsV (coNew l) (L.take k)) L[k].sp).1 (coSplice (actsV (coNew l) (L.take k)) L[k].sp).2 rfl).mono ?_)
        rintro e w2 ⟨rfl, K2, hC2, -⟩
        have hE : (coSplice (actsV (coNew l) (L.take k)) L[k].sp).1 = actsV (coNew l) (L.take (k + 1)) := by rw [hV.out]; simp [actV, hM]
        have HC2 := Lib.hid (hE ▸ hC2)
        clear hC2 hE
        go_wp2_with fail
        go_roundg (gk - 1)
        case measure => have := HQ.out; omega
        case rel => exact ⟨k + 1, K2, by have := HQ.out; omega, by go_num, HC2.out⟩
      by_cases t2 : n % 12 = 2
      · have t0' : ((n : Int) % 12 == 0) = false := by rw [beq_eq_false_iff_ne]; omega
        have t1' : ((n : Int) % 12 == 1) = false := by rw [beq_eq_false_iff_ne]; omega
        have t2' : ((n : Int) % 12 == 2) = true := by rw [beq_iff_eq]; omega
        have hV : Hid (actsV (coNew l) (L.take (k + 1)) = actV (actsV (coNew l) (L.take k)) L[k]) := HT
        have hM : (L[k].kind % 12 = 2) := by rw [HN.out]; omega
        clear t0 t1 t2
        go_wp2_with fail
        (with_reducible refine (co_splice (HC.out.grows (by repeat' first | exact Grows.refl _ | refine Grows.more ?_ _ | refine Grows.alloc ?_ _ | refine Grows.drew ?_)) L[k].at_ L[k].del L[k].A L[k].ins.length L[k].cap L[k].ins rfl hS.out.at_ hS.out.del (hI.out.grows (by repeat' first | exact Grows.refl _ | refine Grows.more ?_ _ | refine Grows.alloc ?_ _ | refine Grows.drew ?_)) (fun s hs => by have := HF.out.2.1 s hs; omega) (by have := HF.out.1; omega) hdid.out (coSplice (actsV (coNew l) (L.take k)) L[k].sp).1 (coSplice (actsV (coNew l) (L.take k)) L[k].sp).2 rfl).mono ?_)
        rintro e w2 ⟨rfl, K2, hC2, -⟩
        have hE : (coSplice (actsV (coNew l) (L.take k)) L[k].sp).1 = actsV (coNew l) (L.take (k + 1)) := by rw [hV.out]; simp [actV, hM]
        have HC2 := Lib.hid (hE ▸ hC2)
        clear hC2 hE
        go_wp2_with fail
        go_roundg (gk - 1)
        case measure => have := HQ.out; omega
        case rel => exact ⟨k + 1, K2, by have := HQ.out; omega, by go_num, HC2.out⟩
      by_cases t3 : n % 12 = 3
      · have t0' : ((n : Int) % 12 == 0) = false := by rw [beq_eq_false_iff_ne]; omega
        have t1' : ((n : Int) % 12 == 1) = false := by rw [beq_eq_false_iff_ne]; omega
        have t2' : ((n : Int) % 12 == 2) = false := by rw [beq_eq_false_iff_ne]; omega
        have t3' : ((n : Int) % 12 == 3) = true := by rw [beq_iff_eq]; omega
        have hV : Hid (actsV (coNew l) (L.take (k + 1)) = actV (actsV (coNew l) (L.take k)) L[k]) := HT
        have hM : (L[k].kind % 12 = 3) := by rw [HN.out]; omega
        clear t0 t1 t2 t3
        go_wp2_with fail
        (with_reducible refine (co_splice (HC.out.grows (by repeat' first | exact Grows.refl _ | refine Grows.more ?_ _ | refine Grows.alloc ?_ _ | refine Grows.drew ?_)) L[k].at_ L[k].del L[k].A L[k].ins.length L[k].cap L[k].ins rfl hS.out.at_ hS.out.del (hI.out.grows (by repeat' first | exact Grows.refl _ | refine Grows.more ?_ _ | refine Grows.alloc ?_ _ | refine Grows.drew ?_)) (fun s hs => by have := HF.out.2.1 s hs; omega) (by have := HF.out.1; omega) hdid.out (coSplice (actsV (coNew l) (L.take k)) L[k].sp).1 (coSplice (actsV (coNew l) (L.take k)) L[k].sp).2 rfl).mono ?_)
        rintro e w2 ⟨rfl, K2, hC2, -⟩
        have hE : (coSplice (actsV (coNew l) (L.take k)) L[k].sp).1 = actsV (coNew l) (L.take (k + 1)) := by rw [hV.out]; simp [actV, hM]
        have HC2 := Lib.hid (hE ▸ hC2)
        clear hC2 hE
        go_wp2_with fail
        go_roundg (gk - 1)
        case measure => have := HQ.out; omega
        case rel => exact ⟨k + 1, K2, by have := HQ.out; omega, by go_num, HC2.out⟩
      by_cases t4 : n % 12 = 4
      · have t0' : ((n : Int) % 12 == 0) = false := by rw [beq_eq_false_iff_ne]; omega
        have t1' : ((n : Int) % 12 == 1) = false := by rw [beq_eq_false_iff_ne]; omega
        have t2' : ((n : Int) % 12 == 2) = false := by rw [beq_eq_false_iff_ne]; omega
        have t3' : ((n : Int) % 12 == 3) = false := by rw [beq_eq_false_iff_ne]; omega
        have t4' : ((n : Int) % 12 == 4) = true := by rw [beq_iff_eq]; omega
        have hV : Hid (actsV (coNew l) (L.take (k + 1)) = actV (actsV (coNew l) (L.take k)) L[k]) := HT
        have hM : (L[k].kind % 12 = 4) := by rw [HN.out]; omega
        clear t0 t1 t2 t3 t4
        go_wp2_with fail
        (with_reducible refine (m_end (HC.out.grows (by repeat' first | exact Grows.refl _ | refine Grows.more ?_ _ | refine Grows.alloc ?_ _ | refine Grows.drew ?_))).mono ?_)
        rintro e w2 ⟨v2, rfl, hC2, -⟩
        have hE : (coEnd (actsV (coNew l) (L.take k))).1 = actsV (coNew l) (L.take (k + 1)) := by rw [hV.out]; simp [actV, hM]
        have HC2 := Lib.hid (hE ▸ hC2)
        clear hC2 hE
        go_wp2_with fail
        go_roundg (gk - 1)
        case measure => have := HQ.out; omega
        case rel => exact ⟨k + 1, K, by have := HQ.out; omega, by go_num, HC2.out⟩
      by_cases t5 : n % 12 = 5
      · have t0' : ((n : Int) % 12 == 0) = false := by rw [beq_eq_false_iff_ne]; omega
        have t1' : ((n : Int) % 12 == 1) = false := by rw [beq_eq_false_iff_ne]; omega
        have t2' : ((n : Int) % 12 == 2) = false := by rw [beq_eq_false_iff_ne]; omega
        have t3' : ((n : Int) % 12 == 3) = false := by rw [beq_eq_false_iff_ne]; omega
        have t4' : ((n : Int) % 12 == 4) = false := by rw [beq_eq_false_iff_ne]; omega
        have t5' : ((n : Int) % 12 == 5) = true := by rw [beq_iff_eq]; omega
        have hV : Hid (actsV (coNew l) (L.take (k + 1)) = actV (actsV (coNew l) (L.take k)) L[k]) := HT
        have hM : (L[k].kind % 12 = 5) := by rw [HN.out]; omega
        clear t0 t1 t2 t3 t4 t5
        go_wp2_with fail
        (with_reducible refine (co_abort (HC.out.grows (by repeat' first | exact Grows.refl _ | refine Grows.more ?_ _ | refine Grows.alloc ?_ _ | refine Grows.drew ?_))).mono ?_)
        rintro e w2 ⟨rfl, hC2, -⟩
        have hE : coAbort (actsV (coNew l) (L.take k)) = actsV (coNew l) (L.take (k + 1)) := by rw [hV.out]; simp [actV, hM]
        have HC2 := Lib.hid (hE ▸ hC2)
        clear hC2 hE
        go_wp2_with fail
        go_roundg (gk - 1)
        case measure => have := HQ.out; omega
        case rel => exact ⟨k + 1, K, by have := HQ.out; omega, by go_num, HC2.out⟩
      by_cases t6 : n % 12 = 6
      · have t0' : ((n : Int) % 12 == 0) = false := by rw [beq_eq_false_iff_ne]; omega
        have t1' : ((n : Int) % 12 == 1) = false := by rw [beq_eq_false_iff_ne]; omega
        have t2' : ((n : Int) % 12 == 2) = false := by rw [beq_eq_false_iff_ne]; omega
        have t3' : ((n : Int) % 12 == 3) = false := by rw [beq_eq_false_iff_ne]; omega
        have t4' : ((n : Int) % 12 == 4) = false := by rw [beq_eq_false_iff_ne]; omega
        have t5' : ((n : Int) % 12 == 5) = false := by rw [beq_eq_false_iff_ne]; omega
        have t6' : ((n : Int) % 12 == 6) = true := by rw [beq_iff_eq]; omega
        have hV : Hid (actsV (coNew l) (L.take (k + 1)) = actV (actsV (coNew l) (L.take k)) L[k]) := HT
        have hM : (L[k].kind % 12 = 6) := by rw [HN.out]; omega
        clear t0 t1 t2 t3 t4 t5 t6
        go_wp2_with fail
        (with_reducible refine (m_undo (HC.out.grows (by repeat' first | exact Grows.refl _ | refine Grows.more ?_ _ | refine Grows.alloc ?_ _ | refine Grows.drew ?_))).mono ?_)
        rintro e w2 ⟨v2, rfl, hC2, -⟩
        have hE : (coUndo (actsV (coNew l) (L.take k))).1 = actsV (coNew l) (L.take (k + 1)) := by rw [hV.out]; simp [actV, hM]
        have HC2 := Lib.hid (hE ▸ hC2)
        clear hC2 hE
        go_wp2_with fail
        go_roundg (gk - 1)
        case measure => have := HQ.out; omega
        case rel => exact ⟨k + 1, K, by have := HQ.out; omega, by go_num, HC2.out⟩
      by_cases t7 : n % 12 = 7
      · have t0' : ((n : Int) % 12 == 0) = false := by rw [beq_eq_false_iff_ne]; omega
        have t1' : ((n : Int) % 12 == 1) = false := by rw [beq_eq_false_iff_ne]; omega
        have t2' : ((n : Int) % 12 == 2) = false := by rw [beq_eq_false_iff_ne]; omega
        have t3' : ((n : Int) % 12 == 3) = false := by rw [beq_eq_false_iff_ne]; omega
        have t4' : ((n : Int) % 12 == 4) = false := by rw [beq_eq_false_iff_ne]; omega
        have t5' : ((n : Int) % 12 == 5) = false := by rw [beq_eq_false_iff_ne]; omega
        have t6' : ((n : Int) % 12 == 6) = false := by rw [beq_eq_false_iff_ne]; omega
        have t7' : ((n : Int) % 12 == 7) = true := by rw [beq_iff_eq]; omega
        have hV : Hid (actsV (coNew l) (L.take (k + 1)) = actV (actsV (coNew l) (L.take k)) L[k]) := HT
        have hM : (L[k].kind % 12 = 7) := by rw [HN.out]; omega
        clear t0 t1 t2 t3 t4 t5 t6 t7
        go_wp2_with fail
        (with_reducible refine (co_go (HC.out.grows (by repeat' first | exact Grows.refl _ | refine Grows.more ?_ _ | refine Grows.alloc ?_ _ | refine Grows.drew ?_)) L[k].line hS.out.line (coGo (actsV (coNew l) (L.take k)) L[k].line).1 (coGo (actsV (coNew l) (L.take k)) L[k].line).2 rfl).mono ?_)
        rintro e w2 ⟨rfl, K2, hC2, -⟩
        have hE : (coGo (actsV (coNew l) (L.take k)) L[k].line).1 = actsV (coNew l) (L.take (k + 1)) := by rw [hV.out]; simp [actV, hM]
        have HC2 := Lib.hid (hE ▸ hC2)
        clear hC2 hE
        go_wp2_with fail
        go_roundg (gk - 1)
        case measure => have := HQ.out; omega
        case rel => exact ⟨k + 1, K2, by have := HQ.out; omega, by go_num, HC2.out⟩
      by_cases t8 : n % 12 = 8
      · have t0' : ((n : Int) % 12 == 0) = false := by rw [beq_eq_false_iff_ne]; omega
        have t1' : ((n : Int) % 12 == 1) = false := by rw [beq_eq_false_iff_ne]; omega
        have t2' : ((n : Int) % 12 == 2) = false := by rw [beq_eq_false_iff_ne]; omega
        have t3' : ((n : Int) % 12 == 3) = false := by rw [beq_eq_false_iff_ne]; omega
        have t4' : ((n : Int) % 12 == 4) = false := by rw [beq_eq_false_iff_ne]; omega
        have t5' : ((n : Int) % 12 == 5) = false := by rw [beq_eq_false_iff_ne]; omega
        have t6' : ((n : Int) % 12 == 6) = false := by rw [beq_eq_false_iff_ne]; omega
        have t7' : ((n : Int) % 12 == 7) = false := by rw [beq_eq_false_iff_ne]; omega
        have t8' : ((n : Int) % 12 == 8) = true := by rw [beq_iff_eq]; omega
        have hV : Hid (actsV (coNew l) (L.take (k + 1)) = actV (actsV (coNew l) (L.take k)) L[k]) := HT
        have hM : (L[k].kind % 12 = 8) := by rw [HN.out]; omega
        clear t0 t1 t2 t3 t4 t5 t6 t7 t8
        go_wp2_with fail
        (with_reducible refine (co_mark (HC.out.grows (by repeat' first | exact Grows.refl _ | refine Grows.more ?_ _ | refine Grows.alloc ?_ _ | refine Grows.drew ?_)) L[k].letter L[k].line hS.out.letter.1 hS.out.letter.2 (coMark (actsV (coNew l) (L.take k)) L[k].letter L[k].line).1 (coMark (actsV (coNew l) (L.take k)) L[k].letter L[k].line).2 rfl).mono ?_)
        rintro e w2 ⟨rfl, K2, hC2, -⟩
        have hE : (coMark (actsV (coNew l) (L.take k)) L[k].letter L[k].line).1 = actsV (coNew l) (L.take (k + 1)) := by rw [hV.out]; simp [actV, hM]
        have HC2 := Lib.hid (hE ▸ hC2)
        clear hC2 hE
        go_wp2_with fail
        go_roundg (gk - 1)
        case measure => have := HQ.out; omega
        case rel => exact ⟨k + 1, K2, by have := HQ.out; omega, by go_num, HC2.out⟩
      have t0' : ((n : Int) % 12 == 0) = false := by rw [beq_eq_false_iff_ne]; omega
      have t1' : ((n : Int) % 12 == 1) = false := by rw [beq_eq_false_iff_ne]; omega
      have t2' : ((n : Int) % 12 == 2) = false := by rw [beq_eq_false_iff_ne]; omega
      have t3' : ((n : Int) % 12 == 3) = false := by rw [beq_eq_false_iff_ne]; omega
      have t4' : ((n : Int) % 12 == 4) = false := by rw [beq_eq_false_iff_ne]; omega
      have t5' : ((n : Int) % 12 == 5) = false := by rw [beq_eq_false_iff_ne]; omega
      have t6' : ((n : Int) % 12 == 6) = false := by rw [beq_eq_false_iff_ne]; omega
      have t7' : ((n : Int) % 12 == 7) = false := by rw [beq_eq_false_iff_ne]; omega
      have t8' : ((n : Int) % 12 == 8) = false := by rw [beq_eq_false_iff_ne]; omega
      have hM : n % 12 = 9 ∨ n % 12 = 10 ∨ n % 12 = 11 := by omega
      have hE : Hid (actsV (coNew l) (L.take k) = actsV (coNew l) (L.take (k + 1))) := Lib.hid (by rw [HT.out]; unfold actV; rw [HN.out]; rw [if_neg (by omega), if_neg (by omega), if_neg (by omega), if_neg (by omega), if_neg (by omega), if_neg (by omega), if_neg (by omega)])
      clear hM t0 t1 t2 t3 t4 t5 t6 t7 t8
      go_wp2_with fail
      go_roundg (gk - 1)
      case measure => have := HQ.out; omega
      case rel => exact ⟨k + 1, K, by have := HQ.out; omega, by go_num, (hE.out ▸ HC.out).grows (by repeat' first | exact Grows.refl _ | refine Grows.more ?_ _ | refine Grows.alloc ?_ _ | refine Grows.drew ?_)⟩
    · have hk : k = L.length := by omega
      subst hk
      have hE : Hid (actsV (coNew l) (L.take L.length) = actsV (coNew l) L) := Lib.hid (by rw [List.take_length])
      go_wp2_with fail
      (with_reducible refine (m_end (hE.out ▸ HC.out)).mono ?_)
      rintro e w2 ⟨v2, rfl, hC2, -⟩
      have HC2 := Lib.hid hC2
      clear hC2
      go_wp2_with fail
      go_ret
      exact ⟨g, K, rfl, ⟨HC2.out.at_, HW.out.trans HC2.out.grown, fun b hb => Nat.le_trans HW.out.below.size (HC2.out.low b hb), HC2.out.out⟩, HC2.out.low, HC2.out.grown⟩
set_option maxRecDepth 3000 in
set_option maxHeartbeats 1000000 in
theorem made_no (A A2 : Option Addr) (cap cap2 : Nat) (l : List (List UInt8)) (L : List AcC) (w : World) (hl : Came w A cap l) (h0 : lcheckV l ≠ 0) (hd : l.length ≤ 1000000) :
    Calls Try.prog 26 #[.slice A l.length cap, .slice A2 L.length cap2] w fun e w' => e = .returned (.pointer none) ∧ Grows w w' := by
  have HL := Lib.hid hl
  have H0 := Lib.hid h0
  clear hl h0
  go_enter Try.func26, Try.ntmps26
  go_wp2_with fail
  (with_reducible refine (coNew_no A cap l _ HL.out H0.out hd).mono ?_)
  rintro e w1 ⟨rfl, m1, rfl⟩
  go_wp2_with fail
  go_ret
  exact ⟨rfl, (by repeat' first | exact Grows.refl _ | refine Grows.more ?_ _ | refine Grows.alloc ?_ _ | refine Grows.drew ?_)⟩
end Go.Proofs.Ythanghgfakibnaa
