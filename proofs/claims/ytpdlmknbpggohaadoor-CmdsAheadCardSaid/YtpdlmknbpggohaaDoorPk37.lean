/-
  Commands: a delimited pattern, a global command, walked. (Printed by cmds.py.)
-/
import Derived.Test.YtpdlmknbpggohaaDoorPk26
import Derived.Test.YtpdlmknbpggohaaDoorPk36
namespace Go.Proofs.YtpdlmknbpggohaaDoor
open Go.RowKit

attribute [local go_sem] tx_bt tx_from
set_option maxRecDepth 3000 in
theorem At.one (c : UInt8) (l : List UInt8) : At (c :: l) 1 l := (At.start (c :: l)).next
/-- What pattern leaves. -/
def PatPost (r : Except Nat (List UInt8 × List UInt8 × Bool)) (e : Ending) : Prop :=
  match r with
  | .error n => e = .returned (.tuple #[.string (tx []), .string (tx []), .bool false, .int .i64 n])
  | .ok p => e = .returned (.tuple #[.string (tx p.1), .string (tx p.2.1), .bool p.2.2, .int .i64 0])
set_option maxRecDepth 3000 in
theorem pat_nil : patL [] = .error 90 := rfl
set_option maxRecDepth 3000 in
theorem pat_bad {c : UInt8} {l : List UInt8} (h : c.toNat = 32 ∨ c.toNat = 92) : patL (c :: l) = .error 90 := by unfold patL; simp only []; rw [if_pos h]
set_option maxRecDepth 3000 in
theorem pat_no {c : UInt8} {l : List UInt8} (h : ¬ (c.toNat = 32 ∨ c.toNat = 92)) (h2 : (delimL c l).1 ≠ []) (h3 : patV (delimL c l).1 = none) : patL (c :: l) = .error 90 := by unfold patL; simp only []; rw [if_neg h, if_pos ⟨h2, h3⟩]
set_option maxRecDepth 3000 in
theorem pat_yes {c : UInt8} {l : List UInt8} (h : ¬ (c.toNat = 32 ∨ c.toNat = 92)) (h2 : ¬ ((delimL c l).1 ≠ [] ∧ patV (delimL c l).1 = none)) : patL (c :: l) = .ok (delimL c l) := by unfold patL; simp only []; rw [if_neg h, if_neg h2]
set_option maxRecDepth 3000 in
theorem delim_len (by_ : UInt8) : ∀ l : List UInt8, (delimL by_ l).1.length ≤ l.length
  | [] => Nat.le_refl _
  | c :: l => by
    unfold delimL
    split
    · exact Nat.zero_le _
    · split
      · cases l with
        | nil => exact Nat.le_refl _
        | cons d r =>
          simp only []
          have := delim_len by_ r
          split <;> (simp; omega)
      · have := delim_len by_ l
        simp; omega
set_option maxRecDepth 3000 in
set_option maxHeartbeats 4000000 in
theorem pattern_any (s : List UInt8) (hl : s.length ≤ 1000) (w : World) (hs : Sane w) :
    Calls Tryd.prog 48 #[.string (tx s)] w fun e w' => PatPost (patL s) e ∧ Grows w w' := by
  have HS0 := Lib.hid hs
  clear hs
  cases s with
  | nil =>
    have he : (tx []).toList.isEmpty = true := empty_tx []
    go_enter Tryd.func48, Tryd.ntmps48
    go_wp2_with fail
    refine bodyPost_ret (v := .tuple #[.string (tx []), .string (tx []), .bool false, .int .i64 90]) (by simp [results, Tryd.results48, go_sem]; try rfl) rfl ⟨rfl, Grows.refl _⟩
  | cons c r =>
    have he : (tx (c :: r)).toList.isEmpty = false := empty_tx (c :: r)
    have hb := bt_zero c r
    have hlt : 0 < (c :: r).length := by simp
    obtain ⟨n, hn⟩ : ∃ n, c.toNat = n := ⟨_, rfl⟩
    rw [hn] at hb
    have HN := Lib.hid hn
    have HA1 := Lib.hid (At.one c r)
    have hrl : r.length ≤ 999 := by simp at hl; omega
    obtain ⟨S, hS⟩ : ∃ S, c :: r = S := ⟨_, rfl⟩
    rw [hS] at he hb hlt hl HA1 ⊢
    have HS := Lib.hid hS
    clear hn hS
    by_cases k32 : n = 32
    · have e32 : ((n : Int) == 32) = true := by rw [k32]; rfl
      have hR := Lib.hid (pat_bad (l := r) (c := c) (.inl (HN.out.trans k32)))
      clear k32
      go_enter Tryd.func48, Tryd.ntmps48
      go_wp2_with fail
      refine bodyPost_ret (v := .tuple #[.string (tx []), .string (tx []), .bool false, .int .i64 90]) (by simp [results, Tryd.results48, go_sem]; try rfl) rfl ⟨by rw [← HS.out, hR.out]; rfl, Grows.refl _⟩
    have e32 : ((n : Int) == 32) = false := by rw [beq_eq_false_iff_ne]; omega
    by_cases k92 : n = 92
    · have e92 : ((n : Int) == 92) = true := by rw [k92]; rfl
      have hR := Lib.hid (pat_bad (l := r) (c := c) (.inr (HN.out.trans k92)))
      clear k92 k32
      go_enter Tryd.func48, Tryd.ntmps48
      go_wp2_with fail
      refine bodyPost_ret (v := .tuple #[.string (tx []), .string (tx []), .bool false, .int .i64 90]) (by simp [results, Tryd.results48, go_sem]; try rfl) rfl ⟨by rw [← HS.out, hR.out]; rfl, Grows.refl _⟩
    have e92 : ((n : Int) == 92) = false := by rw [beq_eq_false_iff_ne]; omega
    have hcc : ¬ (c.toNat = 32 ∨ c.toNat = 92) := by rw [HN.out]; omega
    have HCC := Lib.hid hcc
    clear hcc k32 k92
    go_enter Tryd.func48, Tryd.ntmps48
    go_wp2_with fail
    (with_reducible refine (delimited_lit HA1.out (by omega) c _ 1 _ (by simp) (by rw [HN.out])).mono ?_)
    rintro e w1 ⟨⟨j, rfl, hA, hj⟩, m, rfl⟩
    have hre := delim_len c r
    have hlen2 := hA.len
    have hjl := hA.le
    obtain ⟨D, hD⟩ : ∃ D, delimL c r = D := ⟨_, rfl⟩
    rw [hD] at hA hre
    rw [hD]
    have hAe := hA.eq
    have htail : (tx S).extract j S.length = tx D.2.1 := by rw [tx_from, hAe]
    have HA := Lib.hid hA
    have HD := Lib.hid hD
    have HSN := Lib.hid (HS0.out.grows (Grows.of w m))
    clear hA hD hlen2 hAe
    obtain ⟨re, rest, cl⟩ := D
    have hre : re.length ≤ r.length := hre
    have htail : (tx S).extract j S.length = tx rest := htail
    have he2 := empty_tx re
    cases re with
    | nil =>
      have he2 : (tx []).toList.isEmpty = true := he2
      have hR := Lib.hid (pat_yes (l := r) HCC.out (by rw [HD.out]; simp))
      go_wp2_with fail
      go_region_law (fail)
      all_goals
        go_wp2_with fail
        refine bodyPost_ret (v := .tuple #[.string (tx []), .string (tx rest), .bool cl, .int .i64 0]) (by simp [results, Tryd.results48, go_sem]; try rfl) rfl ⟨by rw [← HS.out, hR.out, HD.out]; rfl, by repeat' first | exact Grows.refl _ | refine Grows.more ?_ _ | refine Grows.drewN ?_ _ | refine Grows.drew ?_⟩
    | cons c1 r1 =>
      have he2 : (tx (c1 :: r1)).toList.isEmpty = false := he2
      obtain ⟨re, hree⟩ : ∃ x, c1 :: r1 = x := ⟨_, rfl⟩
      have hne : re ≠ [] := by rw [← hree]; simp
      rw [hree] at he2 hre HA HD
      rw [hree]
      have HNE := Lib.hid hne
      clear hree hne
      cases hp : patV re with
      | none =>
        have hR := Lib.hid (pat_no (l := r) HCC.out (by rw [HD.out]; exact HNE.out) (by rw [HD.out]; exact hp))
        have HP := Lib.hid hp
        clear hp
        go_wp2_with fail
        (with_reducible refine (bre_no (l := re) (by omega) HP.out _ HSN.out _ rfl).mono ?_)
        rintro e w2 ⟨rfl, m2, rfl⟩
        go_wp2_with fail
        refine bodyPost_ret (v := .tuple #[.string (tx []), .string (tx []), .bool false, .int .i64 90]) (by simp [results, Tryd.results48, go_sem]; try rfl) rfl ⟨by rw [← HS.out, hR.out]; rfl, by repeat' first | exact Grows.refl _ | refine Grows.more ?_ _⟩
      | some y =>
        have hR := Lib.hid (pat_yes (l := r) HCC.out (by rw [HD.out]; simp only []; rw [hp]; simp))
        have HP := Lib.hid hp
        clear hp
        go_wp2_with fail
        (with_reducible refine (bre_yes (l := re) (by omega) HP.out _ HSN.out _ rfl).mono ?_)
        rintro e w2 ⟨g2, rfl, -, -, m2, rfl⟩
        go_wp2_with fail
        go_region_law (fail)
        all_goals
          go_wp2_with fail
          refine bodyPost_ret (v := .tuple #[.string (tx re), .string (tx rest), .bool cl, .int .i64 0]) (by simp [results, Tryd.results48, go_sem]; try rfl) rfl ⟨by rw [← HS.out, hR.out, HD.out]; rfl, by repeat' first | exact Grows.refl _ | refine Grows.more ?_ _ | refine Grows.drewN ?_ _ | refine Grows.drew ?_⟩
/-! ### global -/
set_option maxRecDepth 3000 in
theorem pat_err {s : List UInt8} {n : Nat} (h : patL s = .error n) : n = 90 := by
  unfold patL at h
  split at h
  · injection h with h; exact h.symm
  · split at h
    · injection h with h; exact h.symm
    · split at h
      · injection h with h; exact h.symm
      · cases h
set_option maxRecDepth 3000 in
theorem glob_no {x : Cm} {s : List UInt8} {n : Nat} (h : patL s = .error n) : globL x s = .error n := by unfold globL; rw [h]
set_option maxRecDepth 3000 in
theorem glob_yes {x : Cm} {s : List UInt8} {p : List UInt8 × List UInt8 × Bool} (h : patL s = .ok p) : globL x s = .ok { x with re := p.1, sub := if p.2.2 = false ∨ skipL p.2.1 = [] then [112] else p.2.1 } := by unfold globL; rw [h]
set_option maxRecDepth 3000 in
theorem pat_len {s : List UInt8} {p : List UInt8 × List UInt8 × Bool} (h : patL s = .ok p) : p.1.length ≤ s.length ∧ p.2.1.length ≤ s.length := by
  unfold patL at h
  split at h
  · cases h
  · split at h
    · cases h
    · split at h
      · cases h
      · rename_i c l _ _
        injection h with h
        subst h
        have h1 := delim_len c l
        have h2 := (delim_suffix c l).length_le
        simp only [List.length_cons]
        omega
set_option maxRecDepth 3000 in
set_option maxHeartbeats 4000000 in
theorem global_cmd {w : World} {g : Nat} {lv sv : Value} {x : Cm} (h : CmAt w g lv sv x) (s : List UInt8) (hl : s.length ≤ 1000) (hs : Sane w) :
    Calls Tryd.prog 32 #[.pointer (some ⟨g, 0, none⟩), .string (tx s)] w (CmPost w g lv sv (globL x s)) := by
  have H := Lib.hid h
  have HS0 := Lib.hid hs
  clear h hs
  go_enter Tryd.func32, Tryd.ntmps32
  go_wp2_with fail
  (with_reducible refine (pattern_any s hl _ HS0.out).mono ?_)
  rintro e w1 ⟨hp, m, rfl⟩
  have H1 := Lib.hid (H.out.grows (Grows.of w m))
  have hC1 := Lib.hid (Chg.of_grows (p := fun b => b = g) (Grows.of w m))
  have c8 : (more w m).cell? ⟨g, 8, none⟩ = some (.string (tx x.re)) := H1.out.cell 8
  have c12 : (more w m).cell? ⟨g, 12, none⟩ = some (.string (tx x.sub)) := H1.out.cell 12
  have hfr := H1.out.free
  have ig := H1.out.inh
  generalize more w m = w1 at H1 hC1 c8 c12 hfr ig ⊢
  cases ho : patL s with
  | error n =>
    rw [ho] at hp
    have hp : e = .returned (.tuple #[.string (tx []), .string (tx []), .bool false, .int .i64 n]) := hp
    subst hp
    have hn0 := pat_err ho
    have HO := Lib.hid ho
    clear ho
    subst hn0
    go_wp2_with fail
    go_ret
    refine ⟨hC1.out, ?_⟩
    rw [glob_no HO.out]
    rfl
  | ok p =>
    rw [ho] at hp
    obtain ⟨re, rest, cl⟩ := p
    have hp : e = .returned (.tuple #[.string (tx re), .string (tx rest), .bool cl, .int .i64 0]) := hp
    subst hp
    have hrl : rest.length ≤ 1000 := by have := (pat_len ho).2; simp at this; omega
    have HO := Lib.hid (glob_yes (x := x) ho)
    clear ho
    have H2 := Lib.hid ((H1.out.put 8 (.string (tx re)) (y := { x with re := re }) rfl).put 12 (.string (tx rest)) (y := { x with re := re, sub := rest }) rfl)
    have hC2 := Lib.hid ((hC1.out.trans (chg_cell _ _ 8 (.string (tx re)))).trans (chg_cell _ _ 12 (.string (tx rest))))
    go_upto_region 5 with fail
    have d12 : ((w1.setCell ⟨g, 8, none⟩ (.string (tx re))).setCell ⟨g, 12, none⟩ (.string (tx rest))).cell? ⟨g, 12, none⟩ = some (.string (tx rest)) := H2.out.cell 12
    have hfr2 := H2.out.free
    generalize (w1.setCell ⟨g, 8, none⟩ (.string (tx re))).setCell ⟨g, 12, none⟩ (.string (tx rest)) = w2 at H2 hC2 d12 hfr2 ⊢
    clear c8 c12 hfr ig
    cases cl with
    | false =>
      go_wp2_with fail
      go_ret
      refine ⟨hC2.out.trans (chg_cell _ _ _ _), ?_⟩
      rw [HO.out]
      exact ⟨rfl, H2.out.put 12 _ rfl⟩
    | true =>
      go_wp2_with fail
      (with_reducible refine (trim_any rest (by omega) _).mono ?_)
      rintro e w3 ⟨rfl, m3, rfl⟩
      have H3 := Lib.hid (H2.out.grows (Grows.of w2 m3))
      have hC3 := Lib.hid (hC2.out.trans (Chg.of_grows (p := fun b => b = g) (Grows.of w2 m3)))
      have k12 : (more w2 m3).cell? ⟨g, 12, none⟩ = some (.string (tx rest)) := H3.out.cell 12
      have hfr3 := H3.out.free
      generalize more w2 m3 = w3 at H3 hC3 k12 hfr3 ⊢
      have he2 := empty_tx (skipL rest)
      obtain ⟨b, hb⟩ : ∃ b, (skipL rest).isEmpty = b := ⟨_, rfl⟩
      rw [hb] at he2
      have HB := Lib.hid hb
      clear hb d12 hfr2
      cases b with
      | true =>
        go_wp2_with fail
        go_ret
        refine ⟨hC3.out.trans (chg_cell _ _ _ _), ?_⟩
        rw [HO.out]
        simp only []
        rw [if_pos (.inr (List.isEmpty_iff.1 HB.out))]
        exact ⟨rfl, H3.out.put 12 _ rfl⟩
      | false =>
        go_wp2_with fail
        go_ret
        refine ⟨hC3.out, ?_⟩
        rw [HO.out]
        simp only []
        rw [if_neg (by rintro (h | h); cases h; have := HB.out; rw [h] at this; cases this)]
        exact ⟨rfl, H3.out⟩
end Go.Proofs.YtpdlmknbpggohaaDoor
