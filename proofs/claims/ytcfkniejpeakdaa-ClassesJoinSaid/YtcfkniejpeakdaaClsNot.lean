/-
  Classes: the law ClassesNot.
-/
import Derived.Test.YtcfkniejpeakdaaClsLaws
namespace Go.Proofs.Ytcfkniejpeakdaa
open Go.RowKit

attribute [local go_sem] tx_bt SA_getElem
attribute [local go_sem ↓] zero22
theorem parseA_zero (t : List UInt8) : parseA t 0 = match parseV t with
    | some x => (x.1, (x.2 : Int), 0)
    | none => (fun _ => false, 0, 90) := by
  cases t with
  | nil => rfl
  | cons a t =>
    have := parseA_in (s := a :: t) (k := 0) (by simp)
    rw [List.drop_zero] at this
    rw [show ((0 : Nat) : Int) = 0 from rfl] at this
    rw [this]
    cases parseV (a :: t) with
    | none => rfl
    | some x => simp
/-- The same parts, taken or left. -/
theorem turned_sets {t o r : List UInt8} {b c : Bool} (hbc : b = !c) (ht : ∃ n : List UInt8 → Nat, parseV t = (loopF true (fun _ => false) r).map fun x => (fun c => x.1 c != b, n x.2)) (ho : ∃ n : List UInt8 → Nat, parseV o = (loopF true (fun _ => false) r).map fun x => (fun d => x.1 d != c, n x.2)) :
    (parseA o 0).2.2 = (parseA t 0).2.2 ∧ ((parseA t 0).2.2 = 0 ∨ (parseA t 0).2.2 = 90) ∧ ((parseA t 0).2.2 = 0 → ∀ d, (parseA o 0).1 d = !(parseA t 0).1 d) := by
  obtain ⟨n, hn⟩ := ht
  obtain ⟨m, hm⟩ := ho
  rw [parseA_zero, parseA_zero, hn, hm]
  cases loopF true (fun _ => false) r with
  | none => exact ⟨rfl, .inr rfl, fun h => by simp at h⟩
  | some x =>
    subst hbc
    refine ⟨rfl, .inl rfl, fun _ d => ?_⟩
    simp only [Option.map_some]
    cases x.1 d <;> cases c <;> rfl
theorem parseV_turn (t : List UInt8) (h1 : t.head? = some 91) (h2 : (t.drop 1).head? = some 94) : ∃ n : List UInt8 → Nat, parseV t = (loopF true (fun _ => false) (t.drop 2)).map fun x => (fun c => x.1 c != true, n x.2) :=
  ⟨fun r => t.length - r.length + 1, by unfold parseV; rw [if_pos h1, if_pos h2]⟩
theorem parseV_plain (t : List UInt8) (h1 : t.head? = some 91) (h2 : ¬(t.drop 1).head? = some 94) : ∃ n : List UInt8 → Nat, parseV t = (loopF true (fun _ => false) (t.drop 1)).map fun x => (fun c => x.1 c != false, n x.2) :=
  ⟨fun r => t.length - r.length + 1, by unfold parseV; rw [if_pos h1, if_neg h2]⟩
theorem head_at (s : List UInt8) (h : 0 < s.length) (c : UInt8) (n : Nat) (hc : c.toNat = n) : s.head? = some c ↔ bt s 0 = n := by
  have := head_bt s 0 c n hc
  rw [List.drop_zero] at this
  rw [this]
  exact ⟨fun h => h.2, fun h2 => ⟨h, h2⟩⟩
/-- What the loop of ClassesNot compares. -/
theorem not_facts (s o : List UInt8) (h : 2 ≤ s.length) (h0 : bt s 0 = 91) (ho : (bt s 1 ≠ 94 ∧ o = 91 :: 94 :: s.drop 1) ∨ (bt s 1 = 94 ∧ ¬(2 < s.length ∧ bt s 2 = 94) ∧ o = 91 :: s.drop 2)) :
    (parseA o 0).2.2 = (parseA s 0).2.2 ∧ ((parseA s 0).2.2 = 0 ∨ (parseA s 0).2.2 = 90) ∧ ((parseA s 0).2.2 = 0 → ∀ d, (parseA o 0).1 d = !(parseA s 0).1 d) := by
  have hh := (head_at s (by omega) 91 91 rfl).2 h0
  have h1 := head_bt s 1 94 94 rfl
  have h2 := head_bt s 2 94 94 rfl
  rcases ho with ⟨g, rfl⟩ | ⟨g, g2, rfl⟩
  · exact turned_sets (b := false) (c := true) (r := s.drop 1) rfl (parseV_plain s hh (fun e => g (h1.1 e).2)) (parseV_turn _ rfl rfl)
  · exact turned_sets (b := true) (c := false) (r := s.drop 2) rfl (parseV_turn s hh (h1.2 ⟨by omega, g⟩)) (by
      have := parseV_plain (91 :: s.drop 2) rfl (fun e => g2 (h2.1 (by simpa using e)))
      simpa using this)
set_option maxRecDepth 100000 in
set_option maxHeartbeats 4000000 in
theorem classesNot_law (s : List UInt8) (w : World) (hs : Sane w) : Calls Try.prog 6 #[.string (tx s)] w fun e w' => e = .returned (.bool true) ∧ Grows w w' := by
  have HS := Lib.hid hs
  have i0 : I64 0 := ⟨by omega, by omega⟩
  clear hs
  go_enter Try.func6, Try.ntmps6
  by_cases h1 : 300 < s.length
  · have c1 : (300 : Int) < (s.length : Int) := by omega
    go_wp2_with fail
    (with_reducible refine (does_any _ (HS.out.grows (by repeat' first | exact Grows.refl _ | refine Grows.more ?_ _ | refine Grows.alloc ?_ _ | refine Grows.drewN ?_ _ | refine Grows.drew ?_))).mono ?_)
    rintro e w3 ⟨rfl, m3, rfl⟩
    go_wp2_with fail
    go_ret
    exact ⟨rfl, (by repeat' first | exact Grows.refl _ | refine Grows.more ?_ _ | refine Grows.alloc ?_ _ | refine Grows.drewN ?_ _ | refine Grows.drew ?_)⟩
  have c1 : ¬(300 : Int) < (s.length : Int) := by omega
  by_cases h2 : s.length < 2
  · have c2 : (s.length : Int) < 2 := by omega
    go_wp2_with fail
    (with_reducible refine (does_any _ (HS.out.grows (by repeat' first | exact Grows.refl _ | refine Grows.more ?_ _ | refine Grows.alloc ?_ _ | refine Grows.drewN ?_ _ | refine Grows.drew ?_))).mono ?_)
    rintro e w3 ⟨rfl, m3, rfl⟩
    go_wp2_with fail
    go_ret
    exact ⟨rfl, (by repeat' first | exact Grows.refl _ | refine Grows.more ?_ _ | refine Grows.alloc ?_ _ | refine Grows.drewN ?_ _ | refine Grows.drew ?_)⟩
  have c2 : ¬(s.length : Int) < 2 := by omega
  have c2b : (0 : Int) < (s.length : Int) := by omega
  have c2c : (1 : Int) < (s.length : Int) := by omega
  by_cases h3 : bt s 0 = 91
  · have c3 : ((bt s 0 : Int) != 91) = false := by simp; omega
    have hx1 : (tx s).extract 1 s.length = tx (s.drop 1) := tx_from s 1
    have hx2 : (tx s).extract 2 s.length = tx (s.drop 2) := tx_from s 2
    have ha1 : (⟨#[91, 94]⟩ : ByteArray) ++ tx (s.drop 1) = tx (91 :: 94 :: s.drop 1) := by
      rw [show (⟨#[91, 94]⟩ : ByteArray) = tx [91, 94] from rfl, tx_append]; rfl
    have ha2 : (⟨#[91]⟩ : ByteArray) ++ tx (s.drop 2) = tx (91 :: s.drop 2) := by
      rw [show (⟨#[91]⟩ : ByteArray) = tx [91] from rfl, tx_append]; rfl
    have hlt : (2 : Int) ≤ (s.length : Int) := by omega
    have hN3 := fun g => not_facts s (91 :: 94 :: s.drop 1) (by omega) h3 (.inl ⟨g, rfl⟩)
    have hol3 : (91 :: 94 :: s.drop 1 : List UInt8).length ≤ 1000000 := by simp; omega
    have hu1l : (s.drop 1).length ≤ 400 := by simp; omega
    have hu1c : ((s.drop 1).length : Int) ≤ 400 := by omega
    generalize s.drop 1 = u1 at *
    have HN3 := Lib.hid hN3
    clear hN3
    by_cases h4 : bt s 1 = 94
    · have c4 : ((bt s 1 : Int) == 94) = true := ieq_true (by omega)
      by_cases h5 : 2 < s.length ∧ bt s 2 = 94
      · have c5 : (2 : Int) < (s.length : Int) := by omega
        have c6 : ((bt s 2 : Int) == 94) = true := ieq_true (by omega)
        go_wp2_with fail
        (with_reducible refine (does_any _ (HS.out.grows (by repeat' first | exact Grows.refl _ | refine Grows.more ?_ _ | refine Grows.alloc ?_ _ | refine Grows.drewN ?_ _ | refine Grows.drew ?_))).mono ?_)
        rintro e w3 ⟨rfl, m3, rfl⟩
        go_wp2_with fail
        go_ret
        exact ⟨rfl, (by repeat' first | exact Grows.refl _ | refine Grows.more ?_ _ | refine Grows.alloc ?_ _ | refine Grows.drewN ?_ _ | refine Grows.drew ?_)⟩
      · by_cases h6 : 2 < s.length
        case' pos =>
          have c5 : (2 : Int) < (s.length : Int) := by omega
          have c6 : ((bt s 2 : Int) == 94) = false := ieq_false (fun e => h5 ⟨h6, by omega⟩)
          have HN := Lib.hid (not_facts s (91 :: s.drop 2) (by omega) h3 (.inr ⟨h4, h5, rfl⟩))
          have hol : (91 :: s.drop 2 : List UInt8).length ≤ 1000000 := by simp; omega
          generalize (91 :: s.drop 2 : List UInt8) = o at *
        case' neg =>
          have c5 : ¬(2 : Int) < (s.length : Int) := by omega
          have HN := Lib.hid (not_facts s (91 :: s.drop 2) (by omega) h3 (.inr ⟨h4, h5, rfl⟩))
          have hol : (91 :: s.drop 2 : List UInt8).length ≤ 1000000 := by simp; omega
          generalize (91 :: s.drop 2 : List UInt8) = o at *
        all_goals
          clear h5 h6 h4
          clear h1 h2 h3
          go_wp2_with fail
          (with_reducible refine (parse_any s 0 _ (by omega) (HS.out.grows (by repeat' first | exact Grows.refl _ | refine Grows.more ?_ _ | refine Grows.alloc ?_ _ | refine Grows.drewN ?_ _ | refine Grows.drew ?_)) i0).mono ?_)
          rintro e w1 ⟨rfl, m1, rfl⟩
          go_wp2_with fail
          (with_reducible refine (parse_any o 0 _ hol (HS.out.grows (by repeat' first | exact Grows.refl _ | refine Grows.more ?_ _ | refine Grows.alloc ?_ _ | refine Grows.drewN ?_ _ | refine Grows.drew ?_)) i0).mono ?_)
          rintro e w2 ⟨rfl, m2, rfl⟩
          obtain ⟨f1, f2, f3⟩ := HN.out
          rw [f1]
          clear HN f1
          generalize (parseA s 0).1 = P at *
          generalize (parseA s 0).2.2 = z at *
          generalize (parseA s 0).2.1 = n1 at *
          generalize (parseA o 0).1 = Q at *
          generalize (parseA o 0).2.1 = n2 at *
          rcases f2 with rfl | rfl
          · have HPQ := Lib.hid (f3 rfl)
            clear f3
            have hb1 : blk ((more ((more w m1).alloc (.cells (SA P) 22)) m2).alloc (.cells (SA Q) 22)) (more w m1).heap.size = SA P := by simp [go_sem]
            have hb2 : blk ((more ((more w m1).alloc (.cells (SA P) 22)) m2).alloc (.cells (SA Q) 22)) (more ((more w m1).alloc (.cells (SA P) 22)) m2).heap.size = SA Q := by simp [go_sem]
            have HGW : Hid (Grows w ((more ((more w m1).alloc (.cells (SA P) 22)) m2).alloc (.cells (SA Q) 22))) := Lib.hid (by repeat' first | exact Grows.refl _ | refine Grows.more ?_ _ | refine Grows.alloc ?_ _ | refine Grows.drewN ?_ _ | refine Grows.drew ?_)
            have hsz1 : (more w m1).heap.size = w.heap.size + m1.bs.size := by simp
            have hsz2 : (more ((more w m1).alloc (.cells (SA P) 22)) m2).heap.size = w.heap.size + m1.bs.size + 1 + m2.bs.size := by simp
            rw [hsz1] at hb1
            rw [hsz2] at hb2
            clear hsz1 hsz2
            go_wp2_with fail
            generalize (more ((more w m1).alloc (.cells (SA P) 22)) m2).alloc (.cells (SA Q) 22) = W at *
            go_loopg [10] 256 (fun q v wr => ∃ (j n : Nat), q + j = 256 ∧ v = .int .i64 j ∧ wr = W.drewN n)
            case atStart => exact ⟨0, 0, by omega, rfl, rfl⟩
            case round =>
              obtain ⟨j, n, hq, rfl, rfl⟩ := hrel
              have HQ := Lib.hid hq
              clear hq
              by_cases h7 : j < 256
              · have j0 : (0 : Int) ≤ (j : Int) := by omega
                have j1 : (j : Int) < 256 := by omega
                have e1 := Blk.cell hb1 (by simp) j
                rw [get_SA _ _ h7] at e1
                have e2 := Blk.cell hb2 (by simp) j
                rw [get_SA _ _ h7, HPQ.out j] at e2
                cases hd : P j
                all_goals
                  rw [hd] at e1 e2
                  simp only [Bool.not_true, Bool.not_false] at e2
                  clear hd
                  go_upto_region 15 with fail
                  go_quiet (fail)
                  go_wp2_with fail
                  go_roundg (gk - 1)
                  case measure => have := HQ.out; omega
                  case rel => exact ⟨j + 1, _, by have := HQ.out; omega, by go_num, by first | rfl | exact World.drewN_drewN _ _ _⟩
              · have j1 : ¬(j : Int) < 256 := by omega
                go_wp2_with fail
                (with_reducible refine (does_any _ (HS.out.grows (HGW.out.drewN n))).mono ?_)
                rintro e w3 ⟨rfl, m3, rfl⟩
                go_wp2_with fail
                go_ret
                exact ⟨rfl, (HGW.out.drewN n).more m3⟩
          · clear f3
            go_wp2_with fail
            go_loopg [10] 1 (fun q v wr => v = .int .i64 0 ∧ Grows w wr)
            case atStart => exact ⟨rfl, (by repeat' first | exact Grows.refl _ | refine Grows.more ?_ _ | refine Grows.alloc ?_ _ | refine Grows.drewN ?_ _ | refine Grows.drew ?_)⟩
            case round =>
              obtain ⟨rfl, hgr⟩ := hrel
              have HGR := Lib.hid hgr
              clear hgr
              go_wp2_with fail
              (with_reducible refine (does_any _ (HS.out.grows HGR.out)).mono ?_)
              rintro e w3 ⟨rfl, m3, rfl⟩
              go_wp2_with fail
              go_ret
              exact ⟨rfl, HGR.out.more _⟩
    · have c4 : ((bt s 1 : Int) == 94) = false := ieq_false (by omega)
      have HN := Lib.hid (HN3.out h4)
      have hol := hol3
      clear HN3 hol3
      generalize (91 :: 94 :: u1 : List UInt8) = o at *
      clear h4
      clear h1 h2 h3
      go_wp2_with fail
      (with_reducible refine (parse_any s 0 _ (by omega) (HS.out.grows (by repeat' first | exact Grows.refl _ | refine Grows.more ?_ _ | refine Grows.alloc ?_ _ | refine Grows.drewN ?_ _ | refine Grows.drew ?_)) i0).mono ?_)
      rintro e w1 ⟨rfl, m1, rfl⟩
      go_wp2_with fail
      (with_reducible refine (parse_any o 0 _ hol (HS.out.grows (by repeat' first | exact Grows.refl _ | refine Grows.more ?_ _ | refine Grows.alloc ?_ _ | refine Grows.drewN ?_ _ | refine Grows.drew ?_)) i0).mono ?_)
      rintro e w2 ⟨rfl, m2, rfl⟩
      obtain ⟨f1, f2, f3⟩ := HN.out
      rw [f1]
      clear HN f1
      generalize (parseA s 0).1 = P at *
      generalize (parseA s 0).2.2 = z at *
      generalize (parseA s 0).2.1 = n1 at *
      generalize (parseA o 0).1 = Q at *
      generalize (parseA o 0).2.1 = n2 at *
      rcases f2 with rfl | rfl
      · have HPQ := Lib.hid (f3 rfl)
        clear f3
        have hb1 : blk ((more ((more w m1).alloc (.cells (SA P) 22)) m2).alloc (.cells (SA Q) 22)) (more w m1).heap.size = SA P := by simp [go_sem]
        have hb2 : blk ((more ((more w m1).alloc (.cells (SA P) 22)) m2).alloc (.cells (SA Q) 22)) (more ((more w m1).alloc (.cells (SA P) 22)) m2).heap.size = SA Q := by simp [go_sem]
        have HGW : Hid (Grows w ((more ((more w m1).alloc (.cells (SA P) 22)) m2).alloc (.cells (SA Q) 22))) := Lib.hid (by repeat' first | exact Grows.refl _ | refine Grows.more ?_ _ | refine Grows.alloc ?_ _ | refine Grows.drewN ?_ _ | refine Grows.drew ?_)
        have hsz1 : (more w m1).heap.size = w.heap.size + m1.bs.size := by simp
        have hsz2 : (more ((more w m1).alloc (.cells (SA P) 22)) m2).heap.size = w.heap.size + m1.bs.size + 1 + m2.bs.size := by simp
        rw [hsz1] at hb1
        rw [hsz2] at hb2
        clear hsz1 hsz2
        go_wp2_with fail
        generalize (more ((more w m1).alloc (.cells (SA P) 22)) m2).alloc (.cells (SA Q) 22) = W at *
        go_loopg [10] 256 (fun q v wr => ∃ (j n : Nat), q + j = 256 ∧ v = .int .i64 j ∧ wr = W.drewN n)
        case atStart => exact ⟨0, 0, by omega, rfl, rfl⟩
        case round =>
          obtain ⟨j, n, hq, rfl, rfl⟩ := hrel
          have HQ := Lib.hid hq
          clear hq
          by_cases h7 : j < 256
          · have j0 : (0 : Int) ≤ (j : Int) := by omega
            have j1 : (j : Int) < 256 := by omega
            have e1 := Blk.cell hb1 (by simp) j
            rw [get_SA _ _ h7] at e1
            have e2 := Blk.cell hb2 (by simp) j
            rw [get_SA _ _ h7, HPQ.out j] at e2
            cases hd : P j
            all_goals
              rw [hd] at e1 e2
              simp only [Bool.not_true, Bool.not_false] at e2
              clear hd
              go_upto_region 15 with fail
              go_quiet (fail)
              go_wp2_with fail
              go_roundg (gk - 1)
              case measure => have := HQ.out; omega
              case rel => exact ⟨j + 1, _, by have := HQ.out; omega, by go_num, by first | rfl | exact World.drewN_drewN _ _ _⟩
          · have j1 : ¬(j : Int) < 256 := by omega
            go_wp2_with fail
            (with_reducible refine (does_any _ (HS.out.grows (HGW.out.drewN n))).mono ?_)
            rintro e w3 ⟨rfl, m3, rfl⟩
            go_wp2_with fail
            go_ret
            exact ⟨rfl, (HGW.out.drewN n).more m3⟩
      · clear f3
        go_wp2_with fail
        go_loopg [10] 1 (fun q v wr => v = .int .i64 0 ∧ Grows w wr)
        case atStart => exact ⟨rfl, (by repeat' first | exact Grows.refl _ | refine Grows.more ?_ _ | refine Grows.alloc ?_ _ | refine Grows.drewN ?_ _ | refine Grows.drew ?_)⟩
        case round =>
          obtain ⟨rfl, hgr⟩ := hrel
          have HGR := Lib.hid hgr
          clear hgr
          go_wp2_with fail
          (with_reducible refine (does_any _ (HS.out.grows HGR.out)).mono ?_)
          rintro e w3 ⟨rfl, m3, rfl⟩
          go_wp2_with fail
          go_ret
          exact ⟨rfl, HGR.out.more _⟩
  · have c3 : ((bt s 0 : Int) != 91) = true := by simp; omega
    go_wp2_with fail
    (with_reducible refine (does_any _ (HS.out.grows (by repeat' first | exact Grows.refl _ | refine Grows.more ?_ _ | refine Grows.alloc ?_ _ | refine Grows.drewN ?_ _ | refine Grows.drew ?_))).mono ?_)
    rintro e w3 ⟨rfl, m3, rfl⟩
    go_wp2_with fail
    go_ret
    exact ⟨rfl, (by repeat' first | exact Grows.refl _ | refine Grows.more ?_ _ | refine Grows.alloc ?_ _ | refine Grows.drewN ?_ _ | refine Grows.drew ?_)⟩
end Go.Proofs.Ytcfkniejpeakdaa
