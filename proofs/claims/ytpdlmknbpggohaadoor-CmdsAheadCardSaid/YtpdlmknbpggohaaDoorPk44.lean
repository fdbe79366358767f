/-
  Commands: the law CmdsMay. (Printed by cmdmay.py.)
-/
import Derived.Test.YtpdlmknbpggohaaDoorPk43
import Derived.Test.YtpdlmknbpggohaaDoorPk40
namespace Go.Proofs.YtpdlmknbpggohaaDoor
open Go.RowKit

attribute [local go_sem] tx_list tx_bt tx_from
/-! ### what is read is no longer than the line -/
structure Fit (x : Cm) (n : Nat) : Prop where
  re : x.re.length ≤ n
  repl : x.repl.length ≤ n
  name2 : x.name2.length ≤ n
section
variable {n : Nat} {x y : Cm} {s : List UInt8}
set_option maxRecDepth 3000 in
theorem Fit.of (h : Fit x n) (h1 : y.re = x.re) (h2 : y.repl = x.repl) (h3 : y.name2 = x.name2) : Fit y n := ⟨h1 ▸ h.re, h2 ▸ h.repl, h3 ▸ h.name2⟩
set_option maxRecDepth 3000 in
theorem suf_fit (h : sufL x s = .ok y) (hx : Fit x n) : Fit y n := by
  obtain ⟨p, rfl, _⟩ := suf_ok h
  exact hx.of rfl rfl rfl
set_option maxRecDepth 3000 in
theorem let_fit {must : Bool} (h : letL x must s = .ok y) (hx : Fit x n) : Fit y n := by
  obtain ⟨l, p, rfl, _⟩ := let_ok h
  exact hx.of rfl rfl rfl
set_option maxRecDepth 3000 in
theorem flag_fit {k : Nat} {said : Bool} (h : flagL k said x s = .ok y) (hx : Fit x n) : Fit y n := by
  obtain ⟨a, m, p, rfl, _⟩ := flag_ok _ h
  exact hx.of rfl rfl rfl
set_option maxRecDepth 3000 in
theorem subst_fit (h : substL x s = .ok y) (hx : Fit x n) (hs : s.length ≤ n) : Fit y n := by
  unfold substL at h
  split at h
  · cases h
  · rename_i p hp
    have hl := pat_len hp
    split at h
    · cases h
    · split at h
      · cases h
      · split at h
        · cases h
        · have hr : (delimL (s.headD 0) p.2.1).1.length ≤ n := Nat.le_trans (delim_len _ _) (by omega)
          simp only [] at h
          split at h
          · injection h with h; subst h; exact ⟨by simp only []; omega, hr, hx.name2⟩
          · exact flag_fit h ⟨by simp only []; omega, hr, hx.name2⟩
set_option maxRecDepth 3000 in
theorem named_fit {c : Nat} (h : namedL x c s = .ok y) (hx : Fit x n) (hs : s.length ≤ n) : Fit y n := by
  have h0 : Fit { x with name := c } n := hx.of rfl rfl rfl
  unfold namedL at h
  simp only [] at h
  split at h
  · exact suf_fit h h0
  split at h
  · exact let_fit h h0
  split at h
  · unfold destL at h
    split at h
    · cases h
    · exact suf_fit h (h0.of rfl rfl rfl)
  split at h
  · exact subst_fit h h0 hs
  split at h
  · unfold globL at h
    split at h
    · cases h
    · rename_i p hp
      injection h with h; subst h
      exact ⟨by have := (pat_len hp).1; simp only []; omega, hx.repl, hx.name2⟩
  split at h
  · unfold countL at h
    split at h
    · injection h with h; subst h; exact ⟨hx.re, hx.repl, hs⟩
    · cases h
  split at h
  · split at h
    · injection h with h; subst h; exact h0
    · cases h
  split at h
  · split at h
    · cases h
    · rename_i m hm
      injection h with h; subst h
      refine ⟨hx.re, hx.repl, ?_⟩
      unfold asksL at hm
      split at hm
      · injection hm with hm; subst hm; exact Nat.zero_le _
      · split at hm
        · cases hm
        · split at hm
          · cases hm
          · injection hm with hm; subst hm; exact Nat.le_trans (skip_le s) hs
  · cases h
set_option maxRecDepth 3000 in
theorem cmd_fit (h : cmdL s = .ok y) : Fit y s.length := by
  unfold cmdL at h
  split at h
  · cases h
  · rename_i r hr
    have h1 := (range_suffix hr).length_le
    have h0 : Fit (cm0 r.1 r.2.1) s.length := ⟨Nat.zero_le _, Nat.zero_le _, Nat.zero_le _⟩
    have h2 := skip_le r.2.2
    unfold restL at h
    split at h
    · injection h with h; subst h; exact h0
    · rename_i c t ht
      rw [ht] at h2
      simp only [List.length_cons] at h2
      split at h
      · exact let_fit h (h0.of rfl rfl rfl)
      · split at h
        · exact let_fit h (h0.of rfl rfl rfl)
        · exact named_fit h h0 (by omega)
end
set_option maxRecDepth 3000 in
theorem range_ok {l : List UInt8} {us : List Adr} {ss : List Bool} {t : List UInt8} (h : rangeL l = some (us, ss, t)) (hl : l.length ≤ 1000) (w : World) :
    Calls Tryd.prog 7 #[.string (tx l)] w fun e w' => (∃ (A : Option Addr) (ca : Nat) (B : Option Addr) (cb j : Nat), e = .returned (.tuple #[.agg #[.slice A us.length ca, .slice B ss.length cb], .int .i64 j, .int .i64 0]) ∧ j ≤ l.length) ∧ Grows w w' :=
  (range_any l hl w).mono fun e w' ⟨hp, hg⟩ => ⟨by
    rw [h] at hp
    obtain ⟨A, ca, B, cb, j, rfl, hA, _⟩ := hp
    exact ⟨A, ca, B, cb, j, rfl, hA.le⟩, hg⟩
set_option maxRecDepth 3000 in
theorem range_off {l : List UInt8} (h : rangeL l = none) (hl : l.length ≤ 1000) (w : World) :
    Calls Tryd.prog 7 #[.string (tx l)] w fun e w' => e = .returned (.tuple #[.agg #[.slice none 0 0, .slice none 0 0], .int .i64 0, .int .i64 200]) ∧ Grows w w' :=
  (range_any l hl w).mono fun e w' ⟨hp, hg⟩ => ⟨by rw [h] at hp; exact hp, hg⟩
set_option maxRecDepth 3000 in
theorem cmd_here {l : List UInt8} {x : Cm} (h : cmdL l = .ok x) (hl : l.length ≤ 1000) (w : World) (hs : Sane w) :
    Calls Tryd.prog 6 #[.string (tx l)] w fun e w' => (∃ (A : Option Addr) (ca : Nat) (B : Option Addr) (cb : Nat), e = .returned (.tuple #[.agg (cmC (.slice A x.list.length ca) (.slice B x.semi.length cb) x), .int .i64 0]) ∧ CvAt w' (cmC (.slice A x.list.length ca) (.slice B x.semi.length cb) x) x) ∧ Grows w w' := cmd_ok h hl w hs _ rfl
set_option maxRecDepth 3000 in
theorem cmd_off {l : List UInt8} {n : Nat} (h : cmdL l = .error n) (hl : l.length ≤ 1000) (w : World) (hs : Sane w) :
    Calls Tryd.prog 6 #[.string (tx l)] w fun e w' => e = .returned (.tuple #[.agg cmZ, .int .i64 n]) ∧ Grows w w' := cmd_err h hl w hs _ rfl
set_option maxRecDepth 3000 in
theorem cmd_errs {l : List UInt8} {n : Nat} (h : cmdL l = .error n) : Err n := by
  unfold cmdL at h
  split at h
  · injection h with h; subst h; simp [Err]
  · unfold restL at h
    split at h
    · cases h
    · split at h
      · exact let_err h
      · split at h
        · exact let_err h
        · exact named_err h
set_option maxRecDepth 3000 in
theorem tplParse_some (s : List UInt8) (w : World) (hl : s.length ≤ 1000000) : Calls Tryd.prog 10 #[.string (tx s)] w fun e w' => (∃ (p : Option Addr) (q : Int), e = .returned (.tuple #[.pointer p, .int .i64 q])) ∧ Grows w w' :=
  (tplParse_any s w hl).mono fun e w' h => by
    unfold TplPost at h
    split at h
    · exact ⟨⟨_, _, h.1⟩, h.2⟩
    · obtain ⟨g, h1, _, _, h2⟩ := h
      exact ⟨⟨_, _, h1⟩, h2⟩
set_option maxRecDepth 3000 in
theorem any_no {l : List UInt8} (h : l.any isBl = false) {i : Nat} (hi : i < l.length) : bt l i ≠ 32 ∧ bt l i ≠ 9 := by
  have h2 := List.any_eq_false.1 h (l[i]) (List.getElem_mem _)
  rw [bt_get l i hi]
  simpa [isBl] using h2
set_option maxRecDepth 3000 in
theorem pat_empty : ∃ y, patV [] = some y := ⟨_, rfl⟩
set_option maxRecDepth 3000 in
set_option maxHeartbeats 16000000 in
theorem cmds_may_law (l : List UInt8) (w : World) (hs : Sane w) :
    Calls Tryd.prog 3 #[.string (tx l)] w fun e w' => e = .returned (.bool true) ∧ Grows w w' := by
  have HS := Lib.hid hs
  clear hs
  go_enter Tryd.func3, Tryd.ntmps3
  by_cases h1 : 200 < l.length
  · have h1i : (200 : Int) < (l.length : Int) := by omega
    go_wp2_with fail
    (with_reducible refine (lives_any _ (HS.out.grows (by repeat' first | exact Grows.refl _ | refine Grows.more ?_ _ | refine Grows.alloc ?_ _ | refine Grows.drewN ?_ _ | refine Grows.drew ?_))).mono ?_)
    rintro e w9 ⟨rfl, m9, rfl⟩
    go_wp2_with fail
    go_ret
    exact ⟨rfl, by repeat' first | exact Grows.refl _ | refine Grows.more ?_ _ | refine Grows.alloc ?_ _ | refine Grows.drewN ?_ _ | refine Grows.drew ?_⟩

  have h1n : decide (200 < l.length) = false := decide_eq_false h1
  have h1i : decide ((200 : Int) < (l.length : Int)) = false := decide_eq_false (by omega)
  have hl : l.length ≤ 1000 := by omega
  clear h1
  cases hc : cmdL l with
  | error n =>
    have HE := Lib.hid (cmd_off hc hl)
    have hn := err_ne (cmd_errs hc)
    clear hc
    go_wp2_with fail
    (with_reducible refine (HE.out _ HS.out).mono ?_)
    rintro e w1 ⟨rfl, m, rfl⟩
    unfold cmZ cm0 adr0
    cases hr : rangeL l with
    | none =>
      have HR := Lib.hid (range_off hr hl)
      clear hr
      go_wp2_with fail
      (with_reducible refine (HR.out _).mono ?_)
      rintro e w1 ⟨rfl, m2, rfl⟩
      go_wp2_with fail
      (with_reducible refine (sameCmd_any (cvZ3 _) (cvZ2 _)).mono ?_)
      rintro e w2 ⟨rfl, m3, rfl⟩
      go_wp2_with fail
      (with_reducible refine (lives_any _ (HS.out.grows (by repeat' first | exact Grows.refl _ | refine Grows.more ?_ _ | refine Grows.alloc ?_ _ | refine Grows.drewN ?_ _ | refine Grows.drew ?_))).mono ?_)
      rintro e w9 ⟨rfl, m9, rfl⟩
      go_wp2_with fail
      go_ret
      exact ⟨rfl, by repeat' first | exact Grows.refl _ | refine Grows.more ?_ _ | refine Grows.alloc ?_ _ | refine Grows.drewN ?_ _ | refine Grows.drew ?_⟩

    | some r =>
      obtain ⟨us, ss, t⟩ := r
      have HR := Lib.hid (range_ok hr hl)
      clear hr
      go_wp2_with fail
      (with_reducible refine (HR.out _).mono ?_)
      rintro e w1 ⟨⟨A, ca, B, cb, j, rfl, hj⟩, m2, rfl⟩
      go_wp2_with fail
      (with_reducible refine (sameCmd_any (cvZ3 _) (cvZ2 _)).mono ?_)
      rintro e w2 ⟨rfl, m3, rfl⟩
      go_wp2_with fail
      (with_reducible refine (lives_any _ (HS.out.grows (by repeat' first | exact Grows.refl _ | refine Grows.more ?_ _ | refine Grows.alloc ?_ _ | refine Grows.drewN ?_ _ | refine Grows.drew ?_))).mono ?_)
      rintro e w9 ⟨rfl, m9, rfl⟩
      go_wp2_with fail
      go_ret
      exact ⟨rfl, by repeat' first | exact Grows.refl _ | refine Grows.more ?_ _ | refine Grows.alloc ?_ _ | refine Grows.drewN ?_ _ | refine Grows.drew ?_⟩

  | ok x =>
    have HE := Lib.hid (cmd_here hc hl)
    obtain ⟨hM, rest, hr⟩ := cmd_may hc
    have hF := cmd_fit hc
    have hf1 := hF.re
    have hf2 := hF.repl
    have hf3 := hF.name2
    have HR := Lib.hid (range_ok hr hl)
    have HM := Lib.hid hM
    have HPR : Hid (x.print = 0 ∨ x.print = 112 ∨ x.print = 108 ∨ x.print = 110) := Lib.hid hM.pr
    clear hc hr hF hM
    go_wp2_with fail
    (with_reducible refine (HE.out _ HS.out).mono ?_)
    rintro e w1 ⟨⟨A, ca, B, cb, rfl, -⟩, m, rfl⟩
    go_wp2_with fail
    (with_reducible refine (HR.out _).mono ?_)
    rintro e w1 ⟨⟨A', ca', B', cb', j, rfl, hj⟩, m2, rfl⟩
    have hjn : decide (l.length < j) = false := decide_eq_false (by omega)
    have hjni : decide ((l.length : Int) < (j : Int)) = false := decide_eq_false (by omega)
    clear HE HR
    by_cases k115 : x.name = 115
    · obtain ⟨y, hy⟩ : ∃ y, patV x.re = some y := by
        rcases HM.out.pat (.inl k115) with h | h
        · rw [h]; exact pat_empty
        · exact h
      obtain ⟨hnth, t, ht, hmost⟩ := HM.out.sub k115
      have ht : tokF x.repl = some t := ht
      have hmg : x.re ≠ [] → mostT t ≤ y.2.groups := fun h => by
        have h2 := hmost.resolve_left h
        rwa [groups_of hy] at h2
      have htl : t.length ≤ 1000000 := by have := tokV_length _ _ _ ht; omega
      have HTS := Lib.hid (tokF_small x.repl t ht)
      have HY := Lib.hid hy
      have HT := Lib.hid ht
      have HMG := Lib.hid hmg
      have n115 : ((x.name : Int) == 115) = true := by rw [k115]; rfl
      have nn : decide (x.nth < 1) = false := decide_eq_false (by omega)
      have nni : decide ((x.nth : Int) < 1) = false := decide_eq_false (by omega)
      obtain ⟨b, hb⟩ : ∃ b, x.re.isEmpty = b := ⟨_, rfl⟩
      have he : (tx x.re).toList.isEmpty = b := (empty_tx _).trans hb
      have HB := Lib.hid hb
      clear hy ht hmg hmost hnth k115
      go_wp2_with fail
      (with_reducible refine (bre_yes (l := x.re) (by omega) HY.out _ (HS.out.grows (by repeat' first | exact Grows.refl _ | refine Grows.more ?_ _ | refine Grows.alloc ?_ _ | refine Grows.drewN ?_ _ | refine Grows.drew ?_)) _ rfl).mono ?_)
      rintro e w3 ⟨g3, rfl, hRA, -, m3, rfl⟩
      have HRA := Lib.hid hRA
      clear hRA
      cases b with
      | true =>
        go_wp2_with fail
        (with_reducible refine (tplParse_any x.repl _ (by omega)).mono ?_)
        intro e w4 hpt
        unfold TplPost at hpt
        rw [HT.out] at hpt
        obtain ⟨g4, rfl, -, -, m4, rfl⟩ := hpt
        clear HRA
        rcases HPR.out with hpr | hpr | hpr | hpr
        · have q0 : ((x.print : Int) == 0) = true := by rw [hpr]; rfl
          clear hpr
          go_wp2_with fail
          (with_reducible refine (lives_any _ (HS.out.grows (by repeat' first | exact Grows.refl _ | refine Grows.more ?_ _ | refine Grows.alloc ?_ _ | refine Grows.drewN ?_ _ | refine Grows.drew ?_))).mono ?_)
          rintro e w9 ⟨rfl, m9, rfl⟩
          go_wp2_with fail
          go_ret
          exact ⟨rfl, by repeat' first | exact Grows.refl _ | refine Grows.more ?_ _ | refine Grows.alloc ?_ _ | refine Grows.drewN ?_ _ | refine Grows.drew ?_⟩
        · have q0 : ((x.print : Int) == 0) = false := by rw [hpr]; rfl
          have q112 : ((x.print : Int) == 112) = true := by rw [hpr]; rfl
          clear hpr
          go_wp2_with fail
          (with_reducible refine (lives_any _ (HS.out.grows (by repeat' first | exact Grows.refl _ | refine Grows.more ?_ _ | refine Grows.alloc ?_ _ | refine Grows.drewN ?_ _ | refine Grows.drew ?_))).mono ?_)
          rintro e w9 ⟨rfl, m9, rfl⟩
          go_wp2_with fail
          go_ret
          exact ⟨rfl, by repeat' first | exact Grows.refl _ | refine Grows.more ?_ _ | refine Grows.alloc ?_ _ | refine Grows.drewN ?_ _ | refine Grows.drew ?_⟩
        · have q0 : ((x.print : Int) == 0) = false := by rw [hpr]; rfl
          have q112 : ((x.print : Int) == 112) = false := by rw [hpr]; rfl
          have q108 : ((x.print : Int) == 108) = true := by rw [hpr]; rfl
          clear hpr
          go_wp2_with fail
          (with_reducible refine (lives_any _ (HS.out.grows (by repeat' first | exact Grows.refl _ | refine Grows.more ?_ _ | refine Grows.alloc ?_ _ | refine Grows.drewN ?_ _ | refine Grows.drew ?_))).mono ?_)
          rintro e w9 ⟨rfl, m9, rfl⟩
          go_wp2_with fail
          go_ret
          exact ⟨rfl, by repeat' first | exact Grows.refl _ | refine Grows.more ?_ _ | refine Grows.alloc ?_ _ | refine Grows.drewN ?_ _ | refine Grows.drew ?_⟩
        · have q0 : ((x.print : Int) == 0) = false := by rw [hpr]; rfl
          have q112 : ((x.print : Int) == 112) = false := by rw [hpr]; rfl
          have q108 : ((x.print : Int) == 108) = false := by rw [hpr]; rfl
          have q110 : ((x.print : Int) == 110) = true := by rw [hpr]; rfl
          clear hpr
          go_wp2_with fail
          (with_reducible refine (lives_any _ (HS.out.grows (by repeat' first | exact Grows.refl _ | refine Grows.more ?_ _ | refine Grows.alloc ?_ _ | refine Grows.drewN ?_ _ | refine Grows.drew ?_))).mono ?_)
          rintro e w9 ⟨rfl, m9, rfl⟩
          go_wp2_with fail
          go_ret
          exact ⟨rfl, by repeat' first | exact Grows.refl _ | refine Grows.more ?_ _ | refine Grows.alloc ?_ _ | refine Grows.drewN ?_ _ | refine Grows.drew ?_⟩
      | false =>
        have hm : mostT t ≤ y.2.groups := HMG.out (by intro h; have := HB.out; rw [h] at this; cases this)
        have hmn : decide (y.2.groups < mostT t) = false := decide_eq_false (by omega)
        have hmi : decide ((y.2.groups : Int) < (mostT t : Int)) = false := decide_eq_false (by omega)
        clear hm
        go_wp2_with fail
        (with_reducible refine (tplParse_any x.repl _ (by omega)).mono ?_)
        intro e w4 hpt
        unfold TplPost at hpt
        rw [HT.out] at hpt
        obtain ⟨g4, rfl, hI, -, m4, rfl⟩ := hpt
        have HI := Lib.hid hI
        have HRA4 := Lib.hid (HRA.out.grows (Grows.of _ m4))
        clear hI HRA
        go_wp2_with fail
        (with_reducible refine (most_some g4 t _ HI.out HTS.out htl).mono ?_)
        rintro e w5 ⟨rfl, hw⟩
        subst hw
        go_wp2_with fail
        (with_reducible refine (groups_any HRA4.out).mono ?_)
        rintro e w5 ⟨rfl, hw⟩
        subst hw
        rcases HPR.out with hpr | hpr | hpr | hpr
        · have q0 : ((x.print : Int) == 0) = true := by rw [hpr]; rfl
          clear hpr
          go_wp2_with fail
          (with_reducible refine (lives_any _ (HS.out.grows (by repeat' first | exact Grows.refl _ | refine Grows.more ?_ _ | refine Grows.alloc ?_ _ | refine Grows.drewN ?_ _ | refine Grows.drew ?_))).mono ?_)
          rintro e w9 ⟨rfl, m9, rfl⟩
          go_wp2_with fail
          go_ret
          exact ⟨rfl, by repeat' first | exact Grows.refl _ | refine Grows.more ?_ _ | refine Grows.alloc ?_ _ | refine Grows.drewN ?_ _ | refine Grows.drew ?_⟩
        · have q0 : ((x.print : Int) == 0) = false := by rw [hpr]; rfl
          have q112 : ((x.print : Int) == 112) = true := by rw [hpr]; rfl
          clear hpr
          go_wp2_with fail
          (with_reducible refine (lives_any _ (HS.out.grows (by repeat' first | exact Grows.refl _ | refine Grows.more ?_ _ | refine Grows.alloc ?_ _ | refine Grows.drewN ?_ _ | refine Grows.drew ?_))).mono ?_)
          rintro e w9 ⟨rfl, m9, rfl⟩
          go_wp2_with fail
          go_ret
          exact ⟨rfl, by repeat' first | exact Grows.refl _ | refine Grows.more ?_ _ | refine Grows.alloc ?_ _ | refine Grows.drewN ?_ _ | refine Grows.drew ?_⟩
        · have q0 : ((x.print : Int) == 0) = false := by rw [hpr]; rfl
          have q112 : ((x.print : Int) == 112) = false := by rw [hpr]; rfl
          have q108 : ((x.print : Int) == 108) = true := by rw [hpr]; rfl
          clear hpr
          go_wp2_with fail
          (with_reducible refine (lives_any _ (HS.out.grows (by repeat' first | exact Grows.refl _ | refine Grows.more ?_ _ | refine Grows.alloc ?_ _ | refine Grows.drewN ?_ _ | refine Grows.drew ?_))).mono ?_)
          rintro e w9 ⟨rfl, m9, rfl⟩
          go_wp2_with fail
          go_ret
          exact ⟨rfl, by repeat' first | exact Grows.refl _ | refine Grows.more ?_ _ | refine Grows.alloc ?_ _ | refine Grows.drewN ?_ _ | refine Grows.drew ?_⟩
        · have q0 : ((x.print : Int) == 0) = false := by rw [hpr]; rfl
          have q112 : ((x.print : Int) == 112) = false := by rw [hpr]; rfl
          have q108 : ((x.print : Int) == 108) = false := by rw [hpr]; rfl
          have q110 : ((x.print : Int) == 110) = true := by rw [hpr]; rfl
          clear hpr
          go_wp2_with fail
          (with_reducible refine (lives_any _ (HS.out.grows (by repeat' first | exact Grows.refl _ | refine Grows.more ?_ _ | refine Grows.alloc ?_ _ | refine Grows.drewN ?_ _ | refine Grows.drew ?_))).mono ?_)
          rintro e w9 ⟨rfl, m9, rfl⟩
          go_wp2_with fail
          go_ret
          exact ⟨rfl, by repeat' first | exact Grows.refl _ | refine Grows.more ?_ _ | refine Grows.alloc ?_ _ | refine Grows.drewN ?_ _ | refine Grows.drew ?_⟩
    have n115 : ((x.name : Int) == 115) = false := by rw [beq_eq_false_iff_ne]; omega
    by_cases k103 : x.name = 103
    · obtain ⟨y, hy⟩ : ∃ y, patV x.re = some y := by
        rcases HM.out.pat (by first | exact .inr (.inl k103) | exact .inr (.inr k103)) with h | h
        · rw [h]; exact pat_empty
        · exact h
      have HY := Lib.hid hy
      have n103 : ((x.name : Int) == 103) = true := by rw [k103]; rfl
      obtain ⟨b, hb⟩ : ∃ b, x.re.isEmpty = b := ⟨_, rfl⟩
      have he : (tx x.re).toList.isEmpty = b := (empty_tx _).trans hb
      clear hy k103
      go_wp2_with fail
      (with_reducible refine (bre_yes (l := x.re) (by omega) HY.out _ (HS.out.grows (by repeat' first | exact Grows.refl _ | refine Grows.more ?_ _ | refine Grows.alloc ?_ _ | refine Grows.drewN ?_ _ | refine Grows.drew ?_)) _ rfl).mono ?_)
      rintro e w3 ⟨g3, rfl, -, -, m3, rfl⟩
      cases b with
      | true =>
        go_wp2_with fail
        (with_reducible refine (tplParse_some x.repl _ (by omega)).mono ?_)
        rintro e w4 ⟨⟨p4, q4, rfl⟩, m4, rfl⟩
        rcases HPR.out with hpr | hpr | hpr | hpr
        · have q0 : ((x.print : Int) == 0) = true := by rw [hpr]; rfl
          clear hpr
          go_wp2_with fail
          (with_reducible refine (lives_any _ (HS.out.grows (by repeat' first | exact Grows.refl _ | refine Grows.more ?_ _ | refine Grows.alloc ?_ _ | refine Grows.drewN ?_ _ | refine Grows.drew ?_))).mono ?_)
          rintro e w9 ⟨rfl, m9, rfl⟩
          go_wp2_with fail
          go_ret
          exact ⟨rfl, by repeat' first | exact Grows.refl _ | refine Grows.more ?_ _ | refine Grows.alloc ?_ _ | refine Grows.drewN ?_ _ | refine Grows.drew ?_⟩
        · have q0 : ((x.print : Int) == 0) = false := by rw [hpr]; rfl
          have q112 : ((x.print : Int) == 112) = true := by rw [hpr]; rfl
          clear hpr
          go_wp2_with fail
          (with_reducible refine (lives_any _ (HS.out.grows (by repeat' first | exact Grows.refl _ | refine Grows.more ?_ _ | refine Grows.alloc ?_ _ | refine Grows.drewN ?_ _ | refine Grows.drew ?_))).mono ?_)
          rintro e w9 ⟨rfl, m9, rfl⟩
          go_wp2_with fail
          go_ret
          exact ⟨rfl, by repeat' first | exact Grows.refl _ | refine Grows.more ?_ _ | refine Grows.alloc ?_ _ | refine Grows.drewN ?_ _ | refine Grows.drew ?_⟩
        · have q0 : ((x.print : Int) == 0) = false := by rw [hpr]; rfl
          have q112 : ((x.print : Int) == 112) = false := by rw [hpr]; rfl
          have q108 : ((x.print : Int) == 108) = true := by rw [hpr]; rfl
          clear hpr
          go_wp2_with fail
          (with_reducible refine (lives_any _ (HS.out.grows (by repeat' first | exact Grows.refl _ | refine Grows.more ?_ _ | refine Grows.alloc ?_ _ | refine Grows.drewN ?_ _ | refine Grows.drew ?_))).mono ?_)
          rintro e w9 ⟨rfl, m9, rfl⟩
          go_wp2_with fail
          go_ret
          exact ⟨rfl, by repeat' first | exact Grows.refl _ | refine Grows.more ?_ _ | refine Grows.alloc ?_ _ | refine Grows.drewN ?_ _ | refine Grows.drew ?_⟩
        · have q0 : ((x.print : Int) == 0) = false := by rw [hpr]; rfl
          have q112 : ((x.print : Int) == 112) = false := by rw [hpr]; rfl
          have q108 : ((x.print : Int) == 108) = false := by rw [hpr]; rfl
          have q110 : ((x.print : Int) == 110) = true := by rw [hpr]; rfl
          clear hpr
          go_wp2_with fail
          (with_reducible refine (lives_any _ (HS.out.grows (by repeat' first | exact Grows.refl _ | refine Grows.more ?_ _ | refine Grows.alloc ?_ _ | refine Grows.drewN ?_ _ | refine Grows.drew ?_))).mono ?_)
          rintro e w9 ⟨rfl, m9, rfl⟩
          go_wp2_with fail
          go_ret
          exact ⟨rfl, by repeat' first | exact Grows.refl _ | refine Grows.more ?_ _ | refine Grows.alloc ?_ _ | refine Grows.drewN ?_ _ | refine Grows.drew ?_⟩
      | false =>
        go_wp2_with fail
        (with_reducible refine (tplParse_some x.repl _ (by omega)).mono ?_)
        rintro e w4 ⟨⟨p4, q4, rfl⟩, m4, rfl⟩
        rcases HPR.out with hpr | hpr | hpr | hpr
        · have q0 : ((x.print : Int) == 0) = true := by rw [hpr]; rfl
          clear hpr
          go_wp2_with fail
          (with_reducible refine (lives_any _ (HS.out.grows (by repeat' first | exact Grows.refl _ | refine Grows.more ?_ _ | refine Grows.alloc ?_ _ | refine Grows.drewN ?_ _ | refine Grows.drew ?_))).mono ?_)
          rintro e w9 ⟨rfl, m9, rfl⟩
          go_wp2_with fail
          go_ret
          exact ⟨rfl, by repeat' first | exact Grows.refl _ | refine Grows.more ?_ _ | refine Grows.alloc ?_ _ | refine Grows.drewN ?_ _ | refine Grows.drew ?_⟩
        · have q0 : ((x.print : Int) == 0) = false := by rw [hpr]; rfl
          have q112 : ((x.print : Int) == 112) = true := by rw [hpr]; rfl
          clear hpr
          go_wp2_with fail
          (with_reducible refine (lives_any _ (HS.out.grows (by repeat' first | exact Grows.refl _ | refine Grows.more ?_ _ | refine Grows.alloc ?_ _ | refine Grows.drewN ?_ _ | refine Grows.drew ?_))).mono ?_)
          rintro e w9 ⟨rfl, m9, rfl⟩
          go_wp2_with fail
          go_ret
          exact ⟨rfl, by repeat' first | exact Grows.refl _ | refine Grows.more ?_ _ | refine Grows.alloc ?_ _ | refine Grows.drewN ?_ _ | refine Grows.drew ?_⟩
        · have q0 : ((x.print : Int) == 0) = false := by rw [hpr]; rfl
          have q112 : ((x.print : Int) == 112) = false := by rw [hpr]; rfl
          have q108 : ((x.print : Int) == 108) = true := by rw [hpr]; rfl
          clear hpr
          go_wp2_with fail
          (with_reducible refine (lives_any _ (HS.out.grows (by repeat' first | exact Grows.refl _ | refine Grows.more ?_ _ | refine Grows.alloc ?_ _ | refine Grows.drewN ?_ _ | refine Grows.drew ?_))).mono ?_)
          rintro e w9 ⟨rfl, m9, rfl⟩
          go_wp2_with fail
          go_ret
          exact ⟨rfl, by repeat' first | exact Grows.refl _ | refine Grows.more ?_ _ | refine Grows.alloc ?_ _ | refine Grows.drewN ?_ _ | refine Grows.drew ?_⟩
        · have q0 : ((x.print : Int) == 0) = false := by rw [hpr]; rfl
          have q112 : ((x.print : Int) == 112) = false := by rw [hpr]; rfl
          have q108 : ((x.print : Int) == 108) = false := by rw [hpr]; rfl
          have q110 : ((x.print : Int) == 110) = true := by rw [hpr]; rfl
          clear hpr
          go_wp2_with fail
          (with_reducible refine (lives_any _ (HS.out.grows (by repeat' first | exact Grows.refl _ | refine Grows.more ?_ _ | refine Grows.alloc ?_ _ | refine Grows.drewN ?_ _ | refine Grows.drew ?_))).mono ?_)
          rintro e w9 ⟨rfl, m9, rfl⟩
          go_wp2_with fail
          go_ret
          exact ⟨rfl, by repeat' first | exact Grows.refl _ | refine Grows.more ?_ _ | refine Grows.alloc ?_ _ | refine Grows.drewN ?_ _ | refine Grows.drew ?_⟩
    have n103 : ((x.name : Int) == 103) = false := by rw [beq_eq_false_iff_ne]; omega
    by_cases k118 : x.name = 118
    · obtain ⟨y, hy⟩ : ∃ y, patV x.re = some y := by
        rcases HM.out.pat (by first | exact .inr (.inl k118) | exact .inr (.inr k118)) with h | h
        · rw [h]; exact pat_empty
        · exact h
      have HY := Lib.hid hy
      have n118 : ((x.name : Int) == 118) = true := by rw [k118]; rfl
      obtain ⟨b, hb⟩ : ∃ b, x.re.isEmpty = b := ⟨_, rfl⟩
      have he : (tx x.re).toList.isEmpty = b := (empty_tx _).trans hb
      clear hy k118
      go_wp2_with fail
      (with_reducible refine (bre_yes (l := x.re) (by omega) HY.out _ (HS.out.grows (by repeat' first | exact Grows.refl _ | refine Grows.more ?_ _ | refine Grows.alloc ?_ _ | refine Grows.drewN ?_ _ | refine Grows.drew ?_)) _ rfl).mono ?_)
      rintro e w3 ⟨g3, rfl, -, -, m3, rfl⟩
      cases b with
      | true =>
        go_wp2_with fail
        (with_reducible refine (tplParse_some x.repl _ (by omega)).mono ?_)
        rintro e w4 ⟨⟨p4, q4, rfl⟩, m4, rfl⟩
        rcases HPR.out with hpr | hpr | hpr | hpr
        · have q0 : ((x.print : Int) == 0) = true := by rw [hpr]; rfl
          clear hpr
          go_wp2_with fail
          (with_reducible refine (lives_any _ (HS.out.grows (by repeat' first | exact Grows.refl _ | refine Grows.more ?_ _ | refine Grows.alloc ?_ _ | refine Grows.drewN ?_ _ | refine Grows.drew ?_))).mono ?_)
          rintro e w9 ⟨rfl, m9, rfl⟩
          go_wp2_with fail
          go_ret
          exact ⟨rfl, by repeat' first | exact Grows.refl _ | refine Grows.more ?_ _ | refine Grows.alloc ?_ _ | refine Grows.drewN ?_ _ | refine Grows.drew ?_⟩
        · have q0 : ((x.print : Int) == 0) = false := by rw [hpr]; rfl
          have q112 : ((x.print : Int) == 112) = true := by rw [hpr]; rfl
          clear hpr
          go_wp2_with fail
          (with_reducible refine (lives_any _ (HS.out.grows (by repeat' first | exact Grows.refl _ | refine Grows.more ?_ _ | refine Grows.alloc ?_ _ | refine Grows.drewN ?_ _ | refine Grows.drew ?_))).mono ?_)
          rintro e w9 ⟨rfl, m9, rfl⟩
          go_wp2_with fail
          go_ret
          exact ⟨rfl, by repeat' first | exact Grows.refl _ | refine Grows.more ?_ _ | refine Grows.alloc ?_ _ | refine Grows.drewN ?_ _ | refine Grows.drew ?_⟩
        · have q0 : ((x.print : Int) == 0) = false := by rw [hpr]; rfl
          have q112 : ((x.print : Int) == 112) = false := by rw [hpr]; rfl
          have q108 : ((x.print : Int) == 108) = true := by rw [hpr]; rfl
          clear hpr
          go_wp2_with fail
          (with_reducible refine (lives_any _ (HS.out.grows (by repeat' first | exact Grows.refl _ | refine Grows.more ?_ _ | refine Grows.alloc ?_ _ | refine Grows.drewN ?_ _ | refine Grows.drew ?_))).mono ?_)
          rintro e w9 ⟨rfl, m9, rfl⟩
          go_wp2_with fail
          go_ret
          exact ⟨rfl, by repeat' first | exact Grows.refl _ | refine Grows.more ?_ _ | refine Grows.alloc ?_ _ | refine Grows.drewN ?_ _ | refine Grows.drew ?_⟩
        · have q0 : ((x.print : Int) == 0) = false := by rw [hpr]; rfl
          have q112 : ((x.print : Int) == 112) = false := by rw [hpr]; rfl
          have q108 : ((x.print : Int) == 108) = false := by rw [hpr]; rfl
          have q110 : ((x.print : Int) == 110) = true := by rw [hpr]; rfl
          clear hpr
          go_wp2_with fail
          (with_reducible refine (lives_any _ (HS.out.grows (by repeat' first | exact Grows.refl _ | refine Grows.more ?_ _ | refine Grows.alloc ?_ _ | refine Grows.drewN ?_ _ | refine Grows.drew ?_))).mono ?_)
          rintro e w9 ⟨rfl, m9, rfl⟩
          go_wp2_with fail
          go_ret
          exact ⟨rfl, by repeat' first | exact Grows.refl _ | refine Grows.more ?_ _ | refine Grows.alloc ?_ _ | refine Grows.drewN ?_ _ | refine Grows.drew ?_⟩
      | false =>
        go_wp2_with fail
        (with_reducible refine (tplParse_some x.repl _ (by omega)).mono ?_)
        rintro e w4 ⟨⟨p4, q4, rfl⟩, m4, rfl⟩
        rcases HPR.out with hpr | hpr | hpr | hpr
        · have q0 : ((x.print : Int) == 0) = true := by rw [hpr]; rfl
          clear hpr
          go_wp2_with fail
          (with_reducible refine (lives_any _ (HS.out.grows (by repeat' first | exact Grows.refl _ | refine Grows.more ?_ _ | refine Grows.alloc ?_ _ | refine Grows.drewN ?_ _ | refine Grows.drew ?_))).mono ?_)
          rintro e w9 ⟨rfl, m9, rfl⟩
          go_wp2_with fail
          go_ret
          exact ⟨rfl, by repeat' first | exact Grows.refl _ | refine Grows.more ?_ _ | refine Grows.alloc ?_ _ | refine Grows.drewN ?_ _ | refine Grows.drew ?_⟩
        · have q0 : ((x.print : Int) == 0) = false := by rw [hpr]; rfl
          have q112 : ((x.print : Int) == 112) = true := by rw [hpr]; rfl
          clear hpr
          go_wp2_with fail
          (with_reducible refine (lives_any _ (HS.out.grows (by repeat' first | exact Grows.refl _ | refine Grows.more ?_ _ | refine Grows.alloc ?_ _ | refine Grows.drewN ?_ _ | refine Grows.drew ?_))).mono ?_)
          rintro e w9 ⟨rfl, m9, rfl⟩
          go_wp2_with fail
          go_ret
          exact ⟨rfl, by repeat' first | exact Grows.refl _ | refine Grows.more ?_ _ | refine Grows.alloc ?_ _ | refine Grows.drewN ?_ _ | refine Grows.drew ?_⟩
        · have q0 : ((x.print : Int) == 0) = false := by rw [hpr]; rfl
          have q112 : ((x.print : Int) == 112) = false := by rw [hpr]; rfl
          have q108 : ((x.print : Int) == 108) = true := by rw [hpr]; rfl
          clear hpr
          go_wp2_with fail
          (with_reducible refine (lives_any _ (HS.out.grows (by repeat' first | exact Grows.refl _ | refine Grows.more ?_ _ | refine Grows.alloc ?_ _ | refine Grows.drewN ?_ _ | refine Grows.drew ?_))).mono ?_)
          rintro e w9 ⟨rfl, m9, rfl⟩
          go_wp2_with fail
          go_ret
          exact ⟨rfl, by repeat' first | exact Grows.refl _ | refine Grows.more ?_ _ | refine Grows.alloc ?_ _ | refine Grows.drewN ?_ _ | refine Grows.drew ?_⟩
        · have q0 : ((x.print : Int) == 0) = false := by rw [hpr]; rfl
          have q112 : ((x.print : Int) == 112) = false := by rw [hpr]; rfl
          have q108 : ((x.print : Int) == 108) = false := by rw [hpr]; rfl
          have q110 : ((x.print : Int) == 110) = true := by rw [hpr]; rfl
          clear hpr
          go_wp2_with fail
          (with_reducible refine (lives_any _ (HS.out.grows (by repeat' first | exact Grows.refl _ | refine Grows.more ?_ _ | refine Grows.alloc ?_ _ | refine Grows.drewN ?_ _ | refine Grows.drew ?_))).mono ?_)
          rintro e w9 ⟨rfl, m9, rfl⟩
          go_wp2_with fail
          go_ret
          exact ⟨rfl, by repeat' first | exact Grows.refl _ | refine Grows.more ?_ _ | refine Grows.alloc ?_ _ | refine Grows.drewN ?_ _ | refine Grows.drew ?_⟩
    have n118 : ((x.name : Int) == 118) = false := by rw [beq_eq_false_iff_ne]; omega
    by_cases kf : x.name ∈ [101, 69, 102, 114, 119, 87]
    · have hany := HM.out.file kf
      have HANY := Lib.hid hany
      clear hany
      have c13 : ((more ((more w m).alloc (.cells (cmC (.slice A x.list.length ca) (.slice B x.semi.length cb) x) 30)) m2).alloc (.cells #[.slice A' x.list.length ca', .slice B' x.semi.length cb'] 26)).cell? ⟨w.heap.size + m.1.size, 13, none⟩ = some (.string (tx x.name2)) := by simp [go_sem]
      have c14 : ((more ((more w m).alloc (.cells (cmC (.slice A x.list.length ca) (.slice B x.semi.length cb) x) 30)) m2).alloc (.cells #[.slice A' x.list.length ca', .slice B' x.semi.length cb'] 26)).cell? ⟨w.heap.size + m.1.size, 14, none⟩ = some (.int .u8 x.print) := by simp [go_sem]
      have hGW : Grows w ((more ((more w m).alloc (.cells (cmC (.slice A x.list.length ca) (.slice B x.semi.length cb) x) 30)) m2).alloc (.cells #[.slice A' x.list.length ca', .slice B' x.semi.length cb'] 26)) := by repeat' first | exact Grows.refl _ | refine Grows.more ?_ _ | refine Grows.alloc ?_ _ | refine Grows.drewN ?_ _ | refine Grows.drew ?_
      have HGW := Lib.hid hGW
      clear hGW
      simp only [List.mem_cons, List.not_mem_nil, or_false] at kf
      rcases kf with kf | kf | kf | kf | kf | kf
      · have n101 : ((x.name : Int) == 101) = true := by rw [kf]; rfl
        clear kf k115 k103 k118
        go_upto_region 25 with fail
        generalize ((more ((more w m).alloc (.cells (cmC (.slice A x.list.length ca) (.slice B x.semi.length cb) x) 30)) m2).alloc (.cells #[.slice A' x.list.length ca', .slice B' x.semi.length cb'] 26)) = W at c13 c14 HGW ⊢
        go_wp2_with fail
        go_loopg [12] x.name2.length (fun q v12 wr => ∃ i : Nat, q + i = x.name2.length ∧ v12 = .int .i64 i ∧ wr = W)
        case atStart => exact ⟨0, by omega, rfl, rfl⟩
        case round =>
          obtain ⟨i, hq, rfl, hw⟩ := hrel
          have hw := hw.symm
          subst hw
          have HQ := Lib.hid hq
          have hil : i ≤ x.name2.length := by omega
          clear hq
          by_cases ki : i < x.name2.length
          · have hno := any_no HANY.out ki
            obtain ⟨c, hc⟩ : ∃ c, bt x.name2 i = c := ⟨_, rfl⟩
            rw [hc] at hno
            have z1 : ((c : Int) == 32) = false := by rw [beq_eq_false_iff_ne]; omega
            have z2 : ((c : Int) == 9) = false := by rw [beq_eq_false_iff_ne]; omega
            clear hno
            go_wp2_with fail
            go_roundg (gk - 1)
            case measure => have := HQ.out; omega
            case rel => exact ⟨i + 1, by have := HQ.out; omega, by simp, rfl⟩
          · have kin : decide (i < x.name2.length) = false := decide_eq_false ki
            clear ki
            rcases HPR.out with hpr | hpr | hpr | hpr
            · have q0 : ((x.print : Int) == 0) = true := by rw [hpr]; rfl
              clear hpr
              go_wp2_with fail
              (with_reducible refine (lives_any _ (HS.out.grows (HGW.out.trans (by repeat' first | exact Grows.refl _ | refine Grows.more ?_ _ | refine Grows.alloc ?_ _ | refine Grows.drewN ?_ _ | refine Grows.drew ?_)))).mono ?_)
              rintro e w9 ⟨rfl, m9, rfl⟩
              go_wp2_with fail
              go_ret
              exact ⟨rfl, HGW.out.trans (by repeat' first | exact Grows.refl _ | refine Grows.more ?_ _ | refine Grows.alloc ?_ _ | refine Grows.drewN ?_ _ | refine Grows.drew ?_)⟩
            · have q0 : ((x.print : Int) == 0) = false := by rw [hpr]; rfl
              have q112 : ((x.print : Int) == 112) = true := by rw [hpr]; rfl
              clear hpr
              go_wp2_with fail
              (with_reducible refine (lives_any _ (HS.out.grows (HGW.out.trans (by repeat' first | exact Grows.refl _ | refine Grows.more ?_ _ | refine Grows.alloc ?_ _ | refine Grows.drewN ?_ _ | refine Grows.drew ?_)))).mono ?_)
              rintro e w9 ⟨rfl, m9, rfl⟩
              go_wp2_with fail
              go_ret
              exact ⟨rfl, HGW.out.trans (by repeat' first | exact Grows.refl _ | refine Grows.more ?_ _ | refine Grows.alloc ?_ _ | refine Grows.drewN ?_ _ | refine Grows.drew ?_)⟩
            · have q0 : ((x.print : Int) == 0) = false := by rw [hpr]; rfl
              have q112 : ((x.print : Int) == 112) = false := by rw [hpr]; rfl
              have q108 : ((x.print : Int) == 108) = true := by rw [hpr]; rfl
              clear hpr
              go_wp2_with fail
              (with_reducible refine (lives_any _ (HS.out.grows (HGW.out.trans (by repeat' first | exact Grows.refl _ | refine Grows.more ?_ _ | refine Grows.alloc ?_ _ | refine Grows.drewN ?_ _ | refine Grows.drew ?_)))).mono ?_)
              rintro e w9 ⟨rfl, m9, rfl⟩
              go_wp2_with fail
              go_ret
              exact ⟨rfl, HGW.out.trans (by repeat' first | exact Grows.refl _ | refine Grows.more ?_ _ | refine Grows.alloc ?_ _ | refine Grows.drewN ?_ _ | refine Grows.drew ?_)⟩
            · have q0 : ((x.print : Int) == 0) = false := by rw [hpr]; rfl
              have q112 : ((x.print : Int) == 112) = false := by rw [hpr]; rfl
              have q108 : ((x.print : Int) == 108) = false := by rw [hpr]; rfl
              have q110 : ((x.print : Int) == 110) = true := by rw [hpr]; rfl
              clear hpr
              go_wp2_with fail
              (with_reducible refine (lives_any _ (HS.out.grows (HGW.out.trans (by repeat' first | exact Grows.refl _ | refine Grows.more ?_ _ | refine Grows.alloc ?_ _ | refine Grows.drewN ?_ _ | refine Grows.drew ?_)))).mono ?_)
              rintro e w9 ⟨rfl, m9, rfl⟩
              go_wp2_with fail
              go_ret
              exact ⟨rfl, HGW.out.trans (by repeat' first | exact Grows.refl _ | refine Grows.more ?_ _ | refine Grows.alloc ?_ _ | refine Grows.drewN ?_ _ | refine Grows.drew ?_)⟩
      · have n101 : ((x.name : Int) == 101) = false := by rw [kf]; rfl
        have n69 : ((x.name : Int) == 69) = true := by rw [kf]; rfl
        clear kf k115 k103 k118
        go_upto_region 25 with fail
        generalize ((more ((more w m).alloc (.cells (cmC (.slice A x.list.length ca) (.slice B x.semi.length cb) x) 30)) m2).alloc (.cells #[.slice A' x.list.length ca', .slice B' x.semi.length cb'] 26)) = W at c13 c14 HGW ⊢
        go_wp2_with fail
        go_loopg [12] x.name2.length (fun q v12 wr => ∃ i : Nat, q + i = x.name2.length ∧ v12 = .int .i64 i ∧ wr = W)
        case atStart => exact ⟨0, by omega, rfl, rfl⟩
        case round =>
          obtain ⟨i, hq, rfl, hw⟩ := hrel
          have hw := hw.symm
          subst hw
          have HQ := Lib.hid hq
          have hil : i ≤ x.name2.length := by omega
          clear hq
          by_cases ki : i < x.name2.length
          · have hno := any_no HANY.out ki
            obtain ⟨c, hc⟩ : ∃ c, bt x.name2 i = c := ⟨_, rfl⟩
            rw [hc] at hno
            have z1 : ((c : Int) == 32) = false := by rw [beq_eq_false_iff_ne]; omega
            have z2 : ((c : Int) == 9) = false := by rw [beq_eq_false_iff_ne]; omega
            clear hno
            go_wp2_with fail
            go_roundg (gk - 1)
            case measure => have := HQ.out; omega
            case rel => exact ⟨i + 1, by have := HQ.out; omega, by simp, rfl⟩
          · have kin : decide (i < x.name2.length) = false := decide_eq_false ki
            clear ki
            rcases HPR.out with hpr | hpr | hpr | hpr
            · have q0 : ((x.print : Int) == 0) = true := by rw [hpr]; rfl
              clear hpr
              go_wp2_with fail
              (with_reducible refine (lives_any _ (HS.out.grows (HGW.out.trans (by repeat' first | exact Grows.refl _ | refine Grows.more ?_ _ | refine Grows.alloc ?_ _ | refine Grows.drewN ?_ _ | refine Grows.drew ?_)))).mono ?_)
              rintro e w9 ⟨rfl, m9, rfl⟩
              go_wp2_with fail
              go_ret
              exact ⟨rfl, HGW.out.trans (by repeat' first | exact Grows.refl _ | refine Grows.more ?_ _ | refine Grows.alloc ?_ _ | refine Grows.drewN ?_ _ | refine Grows.drew ?_)⟩
            · have q0 : ((x.print : Int) == 0) = false := by rw [hpr]; rfl
              have q112 : ((x.print : Int) == 112) = true := by rw [hpr]; rfl
              clear hpr
              go_wp2_with fail
              (with_reducible refine (lives_any _ (HS.out.grows (HGW.out.trans (by repeat' first | exact Grows.refl _ | refine Grows.more ?_ _ | refine Grows.alloc ?_ _ | refine Grows.drewN ?_ _ | refine Grows.drew ?_)))).mono ?_)
              rintro e w9 ⟨rfl, m9, rfl⟩
              go_wp2_with fail
              go_ret
              exact ⟨rfl, HGW.out.trans (by repeat' first | exact Grows.refl _ | refine Grows.more ?_ _ | refine Grows.alloc ?_ _ | refine Grows.drewN ?_ _ | refine Grows.drew ?_)⟩
            · have q0 : ((x.print : Int) == 0) = false := by rw [hpr]; rfl
              have q112 : ((x.print : Int) == 112) = false := by rw [hpr]; rfl
              have q108 : ((x.print : Int) == 108) = true := by rw [hpr]; rfl
              clear hpr
              go_wp2_with fail
              (with_reducible refine (lives_any _ (HS.out.grows (HGW.out.trans (by repeat' first | exact Grows.refl _ | refine Grows.more ?_ _ | refine Grows.alloc ?_ _ | refine Grows.drewN ?_ _ | refine Grows.drew ?_)))).mono ?_)
              rintro e w9 ⟨rfl, m9, rfl⟩
              go_wp2_with fail
              go_ret
              exact ⟨rfl, HGW.out.trans (by repeat' first | exact Grows.refl _ | refine Grows.more ?_ _ | refine Grows.alloc ?_ _ | refine Grows.drewN ?_ _ | refine Grows.drew ?_)⟩
            · have q0 : ((x.print : Int) == 0) = false := by rw [hpr]; rfl
              have q112 : ((x.print : Int) == 112) = false := by rw [hpr]; rfl
              have q108 : ((x.print : Int) == 108) = false := by rw [hpr]; rfl
              have q110 : ((x.print : Int) == 110) = true := by rw [hpr]; rfl
              clear hpr
              go_wp2_with fail
              (with_reducible refine (lives_any _ (HS.out.grows (HGW.out.trans (by repeat' first | exact Grows.refl _ | refine Grows.more ?_ _ | refine Grows.alloc ?_ _ | refine Grows.drewN ?_ _ | refine Grows.drew ?_)))).mono ?_)
              rintro e w9 ⟨rfl, m9, rfl⟩
              go_wp2_with fail
              go_ret
              exact ⟨rfl, HGW.out.trans (by repeat' first | exact Grows.refl _ | refine Grows.more ?_ _ | refine Grows.alloc ?_ _ | refine Grows.drewN ?_ _ | refine Grows.drew ?_)⟩
      · have n101 : ((x.name : Int) == 101) = false := by rw [kf]; rfl
        have n69 : ((x.name : Int) == 69) = false := by rw [kf]; rfl
        have n102 : ((x.name : Int) == 102) = true := by rw [kf]; rfl
        clear kf k115 k103 k118
        go_upto_region 25 with fail
        generalize ((more ((more w m).alloc (.cells (cmC (.slice A x.list.length ca) (.slice B x.semi.length cb) x) 30)) m2).alloc (.cells #[.slice A' x.list.length ca', .slice B' x.semi.length cb'] 26)) = W at c13 c14 HGW ⊢
        go_wp2_with fail
        go_loopg [12] x.name2.length (fun q v12 wr => ∃ i : Nat, q + i = x.name2.length ∧ v12 = .int .i64 i ∧ wr = W)
        case atStart => exact ⟨0, by omega, rfl, rfl⟩
        case round =>
          obtain ⟨i, hq, rfl, hw⟩ := hrel
          have hw := hw.symm
          subst hw
          have HQ := Lib.hid hq
          have hil : i ≤ x.name2.length := by omega
          clear hq
          by_cases ki : i < x.name2.length
          · have hno := any_no HANY.out ki
            obtain ⟨c, hc⟩ : ∃ c, bt x.name2 i = c := ⟨_, rfl⟩
            rw [hc] at hno
            have z1 : ((c : Int) == 32) = false := by rw [beq_eq_false_iff_ne]; omega
            have z2 : ((c : Int) == 9) = false := by rw [beq_eq_false_iff_ne]; omega
            clear hno
            go_wp2_with fail
            go_roundg (gk - 1)
            case measure => have := HQ.out; omega
            case rel => exact ⟨i + 1, by have := HQ.out; omega, by simp, rfl⟩
          · have kin : decide (i < x.name2.length) = false := decide_eq_false ki
            clear ki
            rcases HPR.out with hpr | hpr | hpr | hpr
            · have q0 : ((x.print : Int) == 0) = true := by rw [hpr]; rfl
              clear hpr
              go_wp2_with fail
              (with_reducible refine (lives_any _ (HS.out.grows (HGW.out.trans (by repeat' first | exact Grows.refl _ | refine Grows.more ?_ _ | refine Grows.alloc ?_ _ | refine Grows.drewN ?_ _ | refine Grows.drew ?_)))).mono ?_)
              rintro e w9 ⟨rfl, m9, rfl⟩
              go_wp2_with fail
              go_ret
              exact ⟨rfl, HGW.out.trans (by repeat' first | exact Grows.refl _ | refine Grows.more ?_ _ | refine Grows.alloc ?_ _ | refine Grows.drewN ?_ _ | refine Grows.drew ?_)⟩
            · have q0 : ((x.print : Int) == 0) = false := by rw [hpr]; rfl
              have q112 : ((x.print : Int) == 112) = true := by rw [hpr]; rfl
              clear hpr
              go_wp2_with fail
              (with_reducible refine (lives_any _ (HS.out.grows (HGW.out.trans (by repeat' first | exact Grows.refl _ | refine Grows.more ?_ _ | refine Grows.alloc ?_ _ | refine Grows.drewN ?_ _ | refine Grows.drew ?_)))).mono ?_)
              rintro e w9 ⟨rfl, m9, rfl⟩
              go_wp2_with fail
              go_ret
              exact ⟨rfl, HGW.out.trans (by repeat' first | exact Grows.refl _ | refine Grows.more ?_ _ | refine Grows.alloc ?_ _ | refine Grows.drewN ?_ _ | refine Grows.drew ?_)⟩
            · have q0 : ((x.print : Int) == 0) = false := by rw [hpr]; rfl
              have q112 : ((x.print : Int) == 112) = false := by rw [hpr]; rfl
              have q108 : ((x.print : Int) == 108) = true := by rw [hpr]; rfl
              clear hpr
              go_wp2_with fail
              (with_reducible refine (lives_any _ (HS.out.grows (HGW.out.trans (by repeat' first | exact Grows.refl _ | refine Grows.more ?_ _ | refine Grows.alloc ?_ _ | refine Grows.drewN ?_ _ | refine Grows.drew ?_)))).mono ?_)
              rintro e w9 ⟨rfl, m9, rfl⟩
              go_wp2_with fail
              go_ret
              exact ⟨rfl, HGW.out.trans (by repeat' first | exact Grows.refl _ | refine Grows.more ?_ _ | refine Grows.alloc ?_ _ | refine Grows.drewN ?_ _ | refine Grows.drew ?_)⟩
            · have q0 : ((x.print : Int) == 0) = false := by rw [hpr]; rfl
              have q112 : ((x.print : Int) == 112) = false := by rw [hpr]; rfl
              have q108 : ((x.print : Int) == 108) = false := by rw [hpr]; rfl
              have q110 : ((x.print : Int) == 110) = true := by rw [hpr]; rfl
              clear hpr
              go_wp2_with fail
              (with_reducible refine (lives_any _ (HS.out.grows (HGW.out.trans (by repeat' first | exact Grows.refl _ | refine Grows.more ?_ _ | refine Grows.alloc ?_ _ | refine Grows.drewN ?_ _ | refine Grows.drew ?_)))).mono ?_)
              rintro e w9 ⟨rfl, m9, rfl⟩
              go_wp2_with fail
              go_ret
              exact ⟨rfl, HGW.out.trans (by repeat' first | exact Grows.refl _ | refine Grows.more ?_ _ | refine Grows.alloc ?_ _ | refine Grows.drewN ?_ _ | refine Grows.drew ?_)⟩
      · have n101 : ((x.name : Int) == 101) = false := by rw [kf]; rfl
        have n69 : ((x.name : Int) == 69) = false := by rw [kf]; rfl
        have n102 : ((x.name : Int) == 102) = false := by rw [kf]; rfl
        have n114 : ((x.name : Int) == 114) = true := by rw [kf]; rfl
        clear kf k115 k103 k118
        go_upto_region 25 with fail
        generalize ((more ((more w m).alloc (.cells (cmC (.slice A x.list.length ca) (.slice B x.semi.length cb) x) 30)) m2).alloc (.cells #[.slice A' x.list.length ca', .slice B' x.semi.length cb'] 26)) = W at c13 c14 HGW ⊢
        go_wp2_with fail
        go_loopg [12] x.name2.length (fun q v12 wr => ∃ i : Nat, q + i = x.name2.length ∧ v12 = .int .i64 i ∧ wr = W)
        case atStart => exact ⟨0, by omega, rfl, rfl⟩
        case round =>
          obtain ⟨i, hq, rfl, hw⟩ := hrel
          have hw := hw.symm
          subst hw
          have HQ := Lib.hid hq
          have hil : i ≤ x.name2.length := by omega
          clear hq
          by_cases ki : i < x.name2.length
          · have hno := any_no HANY.out ki
            obtain ⟨c, hc⟩ : ∃ c, bt x.name2 i = c := ⟨_, rfl⟩
            rw [hc] at hno
            have z1 : ((c : Int) == 32) = false := by rw [beq_eq_false_iff_ne]; omega
            have z2 : ((c : Int) == 9) = false := by rw [beq_eq_false_iff_ne]; omega
            clear hno
            go_wp2_with fail
            go_roundg (gk - 1)
            case measure => have := HQ.out; omega
            case rel => exact ⟨i + 1, by have := HQ.out; omega, by simp, rfl⟩
          · have kin : decide (i < x.name2.length) = false := decide_eq_false ki
            clear ki
            rcases HPR.out with hpr | hpr | hpr | hpr
            · have q0 : ((x.print : Int) == 0) = true := by rw [hpr]; rfl
              clear hpr
              go_wp2_with fail
              (with_reducible refine (lives_any _ (HS.out.grows (HGW.out.trans (by repeat' first | exact Grows.refl _ | refine Grows.more ?_ _ | refine Grows.alloc ?_ _ | refine Grows.drewN ?_ _ | refine Grows.drew ?_)))).mono ?_)
              rintro e w9 ⟨rfl, m9, rfl⟩
              go_wp2_with fail
              go_ret
              exact ⟨rfl, HGW.out.trans (by repeat' first | exact Grows.refl _ | refine Grows.more ?_ _ | refine Grows.alloc ?_ _ | refine Grows.drewN ?_ _ | refine Grows.drew ?_)⟩
            · have q0 : ((x.print : Int) == 0) = false := by rw [hpr]; rfl
              have q112 : ((x.print : Int) == 112) = true := by rw [hpr]; rfl
              clear hpr
              go_wp2_with fail
              (with_reducible refine (lives_any _ (HS.out.grows (HGW.out.trans (by repeat' first | exact Grows.refl _ | refine Grows.more ?_ _ | refine Grows.alloc ?_ _ | refine Grows.drewN ?_ _ | refine Grows.drew ?_)))).mono ?_)
              rintro e w9 ⟨rfl, m9, rfl⟩
              go_wp2_with fail
              go_ret
              exact ⟨rfl, HGW.out.trans (by repeat' first | exact Grows.refl _ | refine Grows.more ?_ _ | refine Grows.alloc ?_ _ | refine Grows.drewN ?_ _ | refine Grows.drew ?_)⟩
            · have q0 : ((x.print : Int) == 0) = false := by rw [hpr]; rfl
              have q112 : ((x.print : Int) == 112) = false := by rw [hpr]; rfl
              have q108 : ((x.print : Int) == 108) = true := by rw [hpr]; rfl
              clear hpr
              go_wp2_with fail
              (with_reducible refine (lives_any _ (HS.out.grows (HGW.out.trans (by repeat' first | exact Grows.refl _ | refine Grows.more ?_ _ | refine Grows.alloc ?_ _ | refine Grows.drewN ?_ _ | refine Grows.drew ?_)))).mono ?_)
              rintro e w9 ⟨rfl, m9, rfl⟩
              go_wp2_with fail
              go_ret
              exact ⟨rfl, HGW.out.trans (by repeat' first | exact Grows.refl _ | refine Grows.more ?_ _ | refine Grows.alloc ?_ _ | refine Grows.drewN ?_ _ | refine Grows.drew ?_)⟩
            · have q0 : ((x.print : Int) == 0) = false := by rw [hpr]; rfl
              have q112 : ((x.print : Int) == 112) = false := by rw [hpr]; rfl
              have q108 : ((x.print : Int) == 108) = false := by rw [hpr]; rfl
              have q110 : ((x.print : Int) == 110) = true := by rw [hpr]; rfl
              clear hpr
              go_wp2_with fail
              (with_reducible refine (lives_any _ (HS.out.grows (HGW.out.trans (by repeat' first | exact Grows.refl _ | refine Grows.more ?_ _ | refine Grows.alloc ?_ _ | refine Grows.drewN ?_ _ | refine Grows.drew ?_)))).mono ?_)
              rintro e w9 ⟨rfl, m9, rfl⟩
              go_wp2_with fail
              go_ret
              exact ⟨rfl, HGW.out.trans (by repeat' first | exact Grows.refl _ | refine Grows.more ?_ _ | refine Grows.alloc ?_ _ | refine Grows.drewN ?_ _ | refine Grows.drew ?_)⟩
      · have n101 : ((x.name : Int) == 101) = false := by rw [kf]; rfl
        have n69 : ((x.name : Int) == 69) = false := by rw [kf]; rfl
        have n102 : ((x.name : Int) == 102) = false := by rw [kf]; rfl
        have n114 : ((x.name : Int) == 114) = false := by rw [kf]; rfl
        have n119 : ((x.name : Int) == 119) = true := by rw [kf]; rfl
        clear kf k115 k103 k118
        go_upto_region 25 with fail
        generalize ((more ((more w m).alloc (.cells (cmC (.slice A x.list.length ca) (.slice B x.semi.length cb) x) 30)) m2).alloc (.cells #[.slice A' x.list.length ca', .slice B' x.semi.length cb'] 26)) = W at c13 c14 HGW ⊢
        go_wp2_with fail
        go_loopg [12] x.name2.length (fun q v12 wr => ∃ i : Nat, q + i = x.name2.length ∧ v12 = .int .i64 i ∧ wr = W)
        case atStart => exact ⟨0, by omega, rfl, rfl⟩
        case round =>
          obtain ⟨i, hq, rfl, hw⟩ := hrel
          have hw := hw.symm
          subst hw
          have HQ := Lib.hid hq
          have hil : i ≤ x.name2.length := by omega
          clear hq
          by_cases ki : i < x.name2.length
          · have hno := any_no HANY.out ki
            obtain ⟨c, hc⟩ : ∃ c, bt x.name2 i = c := ⟨_, rfl⟩
            rw [hc] at hno
            have z1 : ((c : Int) == 32) = false := by rw [beq_eq_false_iff_ne]; omega
            have z2 : ((c : Int) == 9) = false := by rw [beq_eq_false_iff_ne]; omega
            clear hno
            go_wp2_with fail
            go_roundg (gk - 1)
            case measure => have := HQ.out; omega
            case rel => exact ⟨i + 1, by have := HQ.out; omega, by simp, rfl⟩
          · have kin : decide (i < x.name2.length) = false := decide_eq_false ki
            clear ki
            rcases HPR.out with hpr | hpr | hpr | hpr
            · have q0 : ((x.print : Int) == 0) = true := by rw [hpr]; rfl
              clear hpr
              go_wp2_with fail
              (with_reducible refine (lives_any _ (HS.out.grows (HGW.out.trans (by repeat' first | exact Grows.refl _ | refine Grows.more ?_ _ | refine Grows.alloc ?_ _ | refine Grows.drewN ?_ _ | refine Grows.drew ?_)))).mono ?_)
              rintro e w9 ⟨rfl, m9, rfl⟩
              go_wp2_with fail
              go_ret
              exact ⟨rfl, HGW.out.trans (by repeat' first | exact Grows.refl _ | refine Grows.more ?_ _ | refine Grows.alloc ?_ _ | refine Grows.drewN ?_ _ | refine Grows.drew ?_)⟩
            · have q0 : ((x.print : Int) == 0) = false := by rw [hpr]; rfl
              have q112 : ((x.print : Int) == 112) = true := by rw [hpr]; rfl
              clear hpr
              go_wp2_with fail
              (with_reducible refine (lives_any _ (HS.out.grows (HGW.out.trans (by repeat' first | exact Grows.refl _ | refine Grows.more ?_ _ | refine Grows.alloc ?_ _ | refine Grows.drewN ?_ _ | refine Grows.drew ?_)))).mono ?_)
              rintro e w9 ⟨rfl, m9, rfl⟩
              go_wp2_with fail
              go_ret
              exact ⟨rfl, HGW.out.trans (by repeat' first | exact Grows.refl _ | refine Grows.more ?_ _ | refine Grows.alloc ?_ _ | refine Grows.drewN ?_ _ | refine Grows.drew ?_)⟩
            · have q0 : ((x.print : Int) == 0) = false := by rw [hpr]; rfl
              have q112 : ((x.print : Int) == 112) = false := by rw [hpr]; rfl
              have q108 : ((x.print : Int) == 108) = true := by rw [hpr]; rfl
              clear hpr
              go_wp2_with fail
              (with_reducible refine (lives_any _ (HS.out.grows (HGW.out.trans (by repeat' first | exact Grows.refl _ | refine Grows.more ?_ _ | refine Grows.alloc ?_ _ | refine Grows.drewN ?_ _ | refine Grows.drew ?_)))).mono ?_)
              rintro e w9 ⟨rfl, m9, rfl⟩
              go_wp2_with fail
              go_ret
              exact ⟨rfl, HGW.out.trans (by repeat' first | exact Grows.refl _ | refine Grows.more ?_ _ | refine Grows.alloc ?_ _ | refine Grows.drewN ?_ _ | refine Grows.drew ?_)⟩
            · have q0 : ((x.print : Int) == 0) = false := by rw [hpr]; rfl
              have q112 : ((x.print : Int) == 112) = false := by rw [hpr]; rfl
              have q108 : ((x.print : Int) == 108) = false := by rw [hpr]; rfl
              have q110 : ((x.print : Int) == 110) = true := by rw [hpr]; rfl
              clear hpr
              go_wp2_with fail
              (with_reducible refine (lives_any _ (HS.out.grows (HGW.out.trans (by repeat' first | exact Grows.refl _ | refine Grows.more ?_ _ | refine Grows.alloc ?_ _ | refine Grows.drewN ?_ _ | refine Grows.drew ?_)))).mono ?_)
              rintro e w9 ⟨rfl, m9, rfl⟩
              go_wp2_with fail
              go_ret
              exact ⟨rfl, HGW.out.trans (by repeat' first | exact Grows.refl _ | refine Grows.more ?_ _ | refine Grows.alloc ?_ _ | refine Grows.drewN ?_ _ | refine Grows.drew ?_)⟩
      · have n101 : ((x.name : Int) == 101) = false := by rw [kf]; rfl
        have n69 : ((x.name : Int) == 69) = false := by rw [kf]; rfl
        have n102 : ((x.name : Int) == 102) = false := by rw [kf]; rfl
        have n114 : ((x.name : Int) == 114) = false := by rw [kf]; rfl
        have n119 : ((x.name : Int) == 119) = false := by rw [kf]; rfl
        have n87 : ((x.name : Int) == 87) = true := by rw [kf]; rfl
        clear kf k115 k103 k118
        go_upto_region 25 with fail
        generalize ((more ((more w m).alloc (.cells (cmC (.slice A x.list.length ca) (.slice B x.semi.length cb) x) 30)) m2).alloc (.cells #[.slice A' x.list.length ca', .slice B' x.semi.length cb'] 26)) = W at c13 c14 HGW ⊢
        go_wp2_with fail
        go_loopg [12] x.name2.length (fun q v12 wr => ∃ i : Nat, q + i = x.name2.length ∧ v12 = .int .i64 i ∧ wr = W)
        case atStart => exact ⟨0, by omega, rfl, rfl⟩
        case round =>
          obtain ⟨i, hq, rfl, hw⟩ := hrel
          have hw := hw.symm
          subst hw
          have HQ := Lib.hid hq
          have hil : i ≤ x.name2.length := by omega
          clear hq
          by_cases ki : i < x.name2.length
          · have hno := any_no HANY.out ki
            obtain ⟨c, hc⟩ : ∃ c, bt x.name2 i = c := ⟨_, rfl⟩
            rw [hc] at hno
            have z1 : ((c : Int) == 32) = false := by rw [beq_eq_false_iff_ne]; omega
            have z2 : ((c : Int) == 9) = false := by rw [beq_eq_false_iff_ne]; omega
            clear hno
            go_wp2_with fail
            go_roundg (gk - 1)
            case measure => have := HQ.out; omega
            case rel => exact ⟨i + 1, by have := HQ.out; omega, by simp, rfl⟩
          · have kin : decide (i < x.name2.length) = false := decide_eq_false ki
            clear ki
            rcases HPR.out with hpr | hpr | hpr | hpr
            · have q0 : ((x.print : Int) == 0) = true := by rw [hpr]; rfl
              clear hpr
              go_wp2_with fail
              (with_reducible refine (lives_any _ (HS.out.grows (HGW.out.trans (by repeat' first | exact Grows.refl _ | refine Grows.more ?_ _ | refine Grows.alloc ?_ _ | refine Grows.drewN ?_ _ | refine Grows.drew ?_)))).mono ?_)
              rintro e w9 ⟨rfl, m9, rfl⟩
              go_wp2_with fail
              go_ret
              exact ⟨rfl, HGW.out.trans (by repeat' first | exact Grows.refl _ | refine Grows.more ?_ _ | refine Grows.alloc ?_ _ | refine Grows.drewN ?_ _ | refine Grows.drew ?_)⟩
            · have q0 : ((x.print : Int) == 0) = false := by rw [hpr]; rfl
              have q112 : ((x.print : Int) == 112) = true := by rw [hpr]; rfl
              clear hpr
              go_wp2_with fail
              (with_reducible refine (lives_any _ (HS.out.grows (HGW.out.trans (by repeat' first | exact Grows.refl _ | refine Grows.more ?_ _ | refine Grows.alloc ?_ _ | refine Grows.drewN ?_ _ | refine Grows.drew ?_)))).mono ?_)
              rintro e w9 ⟨rfl, m9, rfl⟩
              go_wp2_with fail
              go_ret
              exact ⟨rfl, HGW.out.trans (by repeat' first | exact Grows.refl _ | refine Grows.more ?_ _ | refine Grows.alloc ?_ _ | refine Grows.drewN ?_ _ | refine Grows.drew ?_)⟩
            · have q0 : ((x.print : Int) == 0) = false := by rw [hpr]; rfl
              have q112 : ((x.print : Int) == 112) = false := by rw [hpr]; rfl
              have q108 : ((x.print : Int) == 108) = true := by rw [hpr]; rfl
              clear hpr
              go_wp2_with fail
              (with_reducible refine (lives_any _ (HS.out.grows (HGW.out.trans (by repeat' first | exact Grows.refl _ | refine Grows.more ?_ _ | refine Grows.alloc ?_ _ | refine Grows.drewN ?_ _ | refine Grows.drew ?_)))).mono ?_)
              rintro e w9 ⟨rfl, m9, rfl⟩
              go_wp2_with fail
              go_ret
              exact ⟨rfl, HGW.out.trans (by repeat' first | exact Grows.refl _ | refine Grows.more ?_ _ | refine Grows.alloc ?_ _ | refine Grows.drewN ?_ _ | refine Grows.drew ?_)⟩
            · have q0 : ((x.print : Int) == 0) = false := by rw [hpr]; rfl
              have q112 : ((x.print : Int) == 112) = false := by rw [hpr]; rfl
              have q108 : ((x.print : Int) == 108) = false := by rw [hpr]; rfl
              have q110 : ((x.print : Int) == 110) = true := by rw [hpr]; rfl
              clear hpr
              go_wp2_with fail
              (with_reducible refine (lives_any _ (HS.out.grows (HGW.out.trans (by repeat' first | exact Grows.refl _ | refine Grows.more ?_ _ | refine Grows.alloc ?_ _ | refine Grows.drewN ?_ _ | refine Grows.drew ?_)))).mono ?_)
              rintro e w9 ⟨rfl, m9, rfl⟩
              go_wp2_with fail
              go_ret
              exact ⟨rfl, HGW.out.trans (by repeat' first | exact Grows.refl _ | refine Grows.more ?_ _ | refine Grows.alloc ?_ _ | refine Grows.drewN ?_ _ | refine Grows.drew ?_)⟩
    simp only [List.mem_cons, List.not_mem_nil, or_false, not_or] at kf
    obtain ⟨k101, k69, k102, k114, k119, k87⟩ := kf
    have n101 : ((x.name : Int) == 101) = false := by rw [beq_eq_false_iff_ne]; omega
    have n69 : ((x.name : Int) == 69) = false := by rw [beq_eq_false_iff_ne]; omega
    have n102 : ((x.name : Int) == 102) = false := by rw [beq_eq_false_iff_ne]; omega
    have n114 : ((x.name : Int) == 114) = false := by rw [beq_eq_false_iff_ne]; omega
    have n119 : ((x.name : Int) == 119) = false := by rw [beq_eq_false_iff_ne]; omega
    have n87 : ((x.name : Int) == 87) = false := by rw [beq_eq_false_iff_ne]; omega
    clear k101 k69 k102 k114 k119 k87 k115 k103 k118
    rcases HPR.out with hpr | hpr | hpr | hpr
    · have q0 : ((x.print : Int) == 0) = true := by rw [hpr]; rfl
      clear hpr
      go_wp2_with fail
      (with_reducible refine (lives_any _ (HS.out.grows (by repeat' first | exact Grows.refl _ | refine Grows.more ?_ _ | refine Grows.alloc ?_ _ | refine Grows.drewN ?_ _ | refine Grows.drew ?_))).mono ?_)
      rintro e w9 ⟨rfl, m9, rfl⟩
      go_wp2_with fail
      go_ret
      exact ⟨rfl, by repeat' first | exact Grows.refl _ | refine Grows.more ?_ _ | refine Grows.alloc ?_ _ | refine Grows.drewN ?_ _ | refine Grows.drew ?_⟩
    · have q0 : ((x.print : Int) == 0) = false := by rw [hpr]; rfl
      have q112 : ((x.print : Int) == 112) = true := by rw [hpr]; rfl
      clear hpr
      go_wp2_with fail
      (with_reducible refine (lives_any _ (HS.out.grows (by repeat' first | exact Grows.refl _ | refine Grows.more ?_ _ | refine Grows.alloc ?_ _ | refine Grows.drewN ?_ _ | refine Grows.drew ?_))).mono ?_)
      rintro e w9 ⟨rfl, m9, rfl⟩
      go_wp2_with fail
      go_ret
      exact ⟨rfl, by repeat' first | exact Grows.refl _ | refine Grows.more ?_ _ | refine Grows.alloc ?_ _ | refine Grows.drewN ?_ _ | refine Grows.drew ?_⟩
    · have q0 : ((x.print : Int) == 0) = false := by rw [hpr]; rfl
      have q112 : ((x.print : Int) == 112) = false := by rw [hpr]; rfl
      have q108 : ((x.print : Int) == 108) = true := by rw [hpr]; rfl
      clear hpr
      go_wp2_with fail
      (with_reducible refine (lives_any _ (HS.out.grows (by repeat' first | exact Grows.refl _ | refine Grows.more ?_ _ | refine Grows.alloc ?_ _ | refine Grows.drewN ?_ _ | refine Grows.drew ?_))).mono ?_)
      rintro e w9 ⟨rfl, m9, rfl⟩
      go_wp2_with fail
      go_ret
      exact ⟨rfl, by repeat' first | exact Grows.refl _ | refine Grows.more ?_ _ | refine Grows.alloc ?_ _ | refine Grows.drewN ?_ _ | refine Grows.drew ?_⟩
    · have q0 : ((x.print : Int) == 0) = false := by rw [hpr]; rfl
      have q112 : ((x.print : Int) == 112) = false := by rw [hpr]; rfl
      have q108 : ((x.print : Int) == 108) = false := by rw [hpr]; rfl
      have q110 : ((x.print : Int) == 110) = true := by rw [hpr]; rfl
      clear hpr
      go_wp2_with fail
      (with_reducible refine (lives_any _ (HS.out.grows (by repeat' first | exact Grows.refl _ | refine Grows.more ?_ _ | refine Grows.alloc ?_ _ | refine Grows.drewN ?_ _ | refine Grows.drew ?_))).mono ?_)
      rintro e w9 ⟨rfl, m9, rfl⟩
      go_wp2_with fail
      go_ret
      exact ⟨rfl, by repeat' first | exact Grows.refl _ | refine Grows.more ?_ _ | refine Grows.alloc ?_ _ | refine Grows.drewN ?_ _ | refine Grows.drew ?_⟩
end Go.Proofs.YtpdlmknbpggohaaDoor
