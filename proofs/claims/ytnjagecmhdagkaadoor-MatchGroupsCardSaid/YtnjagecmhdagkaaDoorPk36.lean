/-
  Several texts of the proof: MatSg, MatSh.
-/
import Derived.Test.YtnjagecmhdagkaaDoorPk35
set_option linter.unusedSimpArgs false
set_option linter.unusedVariables false
/-
  Matches by all ways: all contracts of the search; which of two rows of ways is the better one.
-/
namespace Go.Proofs.YtnjagecmhdagkaaDoor
open Go.RowKit

section
variable {s : List UInt8} {fuel : Int} {sb rb ob lo : Nat}
set_option maxRecDepth 3000 in
theorem srow_ok (hs : s.length ≤ 60000) (hfu : fuel ≤ 1000000000) (hlo : lo ≤ sb ∧ lo ≤ rb ∧ lo ≤ ob) : ∀ f : Fr, SRowC s fuel sb rb ob lo f := by
  intro f
  induction f with
  | nil => exact srow_any hs hfu hlo .nil fun x k r e => by cases e
  | cons x k r ihk ihr => exact srow_any hs hfu hlo (.cons x k r) fun x' k' r' e => by cases e; exact ⟨ihk, ihr⟩
end
/-- The first difference of how long. -/
def longsV : Wy → Wy → Int
  | .cons a _ r, .cons b _ r2 => if (a : Int) - b ≠ 0 then (a : Int) - b else longsV r r2
  | _, _ => 0
/-- Of what is within. -/
def withB : Wy → Wy → Int
  | .cons _ k r, .cons _ k2 r2 => if (if longsV k k2 ≠ 0 then longsV k k2 else withB k k2) ≠ 0 then (if longsV k k2 ≠ 0 then longsV k k2 else withB k k2) else withB r r2
  | _, _ => 0
/-- Which one is better. -/
def betterV (a b : Wy) : Int := if longsV a b ≠ 0 then longsV a b else withB a b
set_option maxRecDepth 3000 in
theorem withB_cons (l1 l2 : Nat) (k r k2 r2 : Wy) : withB (.cons l1 k r) (.cons l2 k2 r2) = if betterV k k2 ≠ 0 then betterV k k2 else withB r r2 := by
  rw [withB]
  rfl
/-- Ways are as long as a text at most. -/
def WySm : Wy → Prop
  | .nil => True
  | .cons l k r => l ≤ 100000 ∧ WySm k ∧ WySm r
set_option maxRecDepth 3000 in
theorem WyRow.sm {ok : Nat → Prop} {w : World} : ∀ {f : Wy} {xs : List Value}, WyRow ok w f xs → WySm f := by
  intro f
  induction f with
  | nil => intro xs _; trivial
  | cons l k r ihk ihr =>
    rintro xs ⟨A, cap, ys, zs, e, h1, h2, h3, h4⟩
    exact ⟨h4, ihk h2, ihr h3⟩
set_option maxRecDepth 3000 in
theorem WyAt.sm {ok : Nat → Prop} {w : World} {A : Option Addr} {cap : Nat} {f : Wy} (h : WyAt ok w A cap f) : WySm f := by
  obtain ⟨xs, _, h2⟩ := h
  exact h2.sm
/-- A suffix of a row of ways, by its cells. -/
structure WySuf (ok : Nat → Prop) (w : World) (f : Wy) (xs : List Value) (i : Nat) (g : Wy) : Prop where
  row : WyRow ok w g (xs.drop (2 * i))
  len : g.len + i = f.len
set_option maxRecDepth 3000 in
theorem WySuf.start {ok : Nat → Prop} {w : World} {f : Wy} {xs : List Value} (h : WyRow ok w f xs) : WySuf ok w f xs 0 f := ⟨by simpa using h, rfl⟩
set_option maxRecDepth 3000 in
theorem WySuf.next {ok : Nat → Prop} {w : World} {f k r : Wy} {xs : List Value} {i l : Nat} (h : WySuf ok w f xs i (.cons l k r)) : WySuf ok w f xs (i + 1) r ∧ xs[2 * i]? = some (.int .i64 l) ∧ ∃ A cap, xs[2 * i + 1]? = some (.slice A k.len cap) ∧ WyAt ok w A cap k := by
  obtain ⟨⟨A, cap, ys, zs, e, h1, h2, h3, _⟩, hl⟩ := h
  have e0 : (xs.drop (2 * i))[0]? = some (.int .i64 (l : Int)) := by rw [e]; rfl
  have e1 : (xs.drop (2 * i))[1]? = some (.slice A k.len cap) := by rw [e]; rfl
  rw [List.getElem?_drop] at e0 e1
  refine ⟨⟨?_, by simp only [Wy.len] at hl; omega⟩, e0, A, cap, e1, ys, h1, h2⟩
  have : xs.drop (2 * (i + 1)) = zs := by
    rw [show 2 * (i + 1) = 2 * i + 2 by omega, ← List.drop_drop, e]
    rfl
  rw [this]
  exact h3
end Go.Proofs.YtnjagecmhdagkaaDoor

/-
  Matches by all ways: which of two rows of ways is the better one, walked.
-/
namespace Go.Proofs.YtnjagecmhdagkaaDoor
open Go.RowKit

def AllWy (C : Wy → Prop) : Wy → Prop
  | .nil => True
  | .cons _ k r => C k ∧ AllWy C r
set_option maxRecDepth 3000 in
theorem allWy_of {C : Wy → Prop} (h : ∀ f, AllWy C f → C f) : ∀ f, C f ∧ AllWy C f := by
  intro f
  induction f with
  | nil => exact ⟨h _ trivial, trivial⟩
  | cons l k r ihk ihr => exact ⟨h _ ⟨ihk.1, ihr.2⟩, ihk.1, ihr.2⟩
def BetC (a : Wy) : Prop := ∀ (b : Wy) (ok : Nat → Prop) (A : Option Addr) (ca : Nat) (B : Option Addr) (cb : Nat) (w : World), WyAt ok w A ca a → WyAt ok w B cb b → WySm a → WySm b →
  Calls Tryd.prog 31 #[.slice A a.len ca, .slice B b.len cb] w fun e w' => e = .returned (.int .i64 (betterV a b)) ∧ Grows w w'
set_option maxRecDepth 100000 in
set_option maxHeartbeats 4000000 in
theorem better_of (a : Wy) (hK : AllWy BetC a) : BetC a := by
  intro b ok A ca B cb w hA hB hsa hsb
  obtain ⟨xs, hxs, hxr⟩ := hA
  obtain ⟨ys, hys, hyr⟩ := hB
  obtain ⟨R, hR⟩ : ∃ R, betterV a b = R := ⟨_, rfl⟩
  rw [hR]
  have HR := Lib.hid hR
  have hal : a.len ≤ 9223372036854775807 := by have := hxs.le; have := hxs.cap63; omega
  have hbl : b.len ≤ 9223372036854775807 := by have := hys.le; have := hys.cap63; omega
  obtain ⟨M, hM⟩ : ∃ M, min a.len b.len = M := ⟨_, rfl⟩
  have hmin : min (a.len : Int) (b.len : Int) = (M : Int) := by omega
  have HXS := Lib.hid hxs
  have HYS := Lib.hid hys
  have HM := Lib.hid hM
  have HA0 := Lib.hid (WySuf.start hxr)
  have HB0 := Lib.hid (WySuf.start hyr)
  have HSA := Lib.hid hsa
  have HSB := Lib.hid hsb
  have HK := Lib.hid hK
  have hMl : M ≤ 9223372036854775807 := by omega
  clear hR hxs hys hM hxr hyr hsa hsb hK
  go_enter Tryd.func31, Tryd.ntmps31
  go_wp2_with fail
  go_loopg [14] M (fun q v14 wr => ∃ (i : Nat) (a1 b1 : Wy), q + i = M ∧ v14 = .int .i64 i ∧ WySuf ok w a xs i a1 ∧ WySuf ok w b ys i b1 ∧ WySm a1 ∧ WySm b1 ∧ longsV a b = longsV a1 b1 ∧ Grows w wr)
  case atStart => exact ⟨0, a, b, by omega, rfl, HA0.out, HB0.out, HSA.out, HSB.out, rfl, Grows.refl _⟩
  case round =>
    obtain ⟨i, a1, b1, hq, rfl, hS1, hS2, hm1, hm2, hL, hg⟩ := hrel
    by_cases hi : i < M
    · cases a1 with
      | nil => have h5 := hS1.len; have h6 := HM.out; simp only [Wy.len] at h5; omega
      | cons l k r =>
      cases b1 with
      | nil => have h5 := hS2.len; have h6 := HM.out; simp only [Wy.len] at h5; omega
      | cons l2 k2 r2 =>
      obtain ⟨hN1, hx0, -⟩ := hS1.next
      obtain ⟨hN2, hy0, -⟩ := hS2.next
      obtain ⟨b1, o1, e1, hin1, hc1⟩ := HXS.out.rd.2 (by have := HM.out; omega)
      obtain ⟨b2, o2, e2, hin2, hc2⟩ := HYS.out.rd.2 (by have := HM.out; omega)
      subst e1 e2
      have d1 := cellG (hc1 _ _ hx0) hg
      have d2 := cellG (hc2 _ _ hy0) hg
      rw [Nat.mul_comm 2 i] at d1 d2
      have j1 : InHeap b1 wr := World.block_lt_of_cell? _ _ d1
      have j2 : InHeap b2 wr := World.block_lt_of_cell? _ _ d2
      have hli : (i : Int) < (M : Int) := by omega
      have hia : i < a.len := by have := HM.out; omega
      have hib : i < b.len := by have := HM.out; omega
      have hiai : (i : Int) < a.len := by omega
      have hibi : (i : Int) < b.len := by omega
      obtain ⟨D, hD⟩ : ∃ D, (l : Int) - l2 = D := ⟨_, rfl⟩
      have hl1 := hm1.1
      have hl2 := hm2.1
      have hDs : -100000 ≤ D ∧ D ≤ 100000 := by omega
      have HN1 := Lib.hid hN1
      have HN2 := Lib.hid hN2
      have HMS := Lib.hid (And.intro hm1.2.2 hm2.2.2)
      have HL := Lib.hid hL
      have HG := Lib.hid hg
      have HQ := Lib.hid hq
      have HD := Lib.hid hD
      clear hS1 hS2 hm1 hm2 hL hg hq hN1 hN2 hx0 hy0 hc1 hc2
      by_cases hD0 : D = 0
      · have hDb : (D != 0) = false := by simp [hD0]
        clear hD0
        go_upto_region 4 with fail
        go_quiet (fail)
        go_wp2_with fail
        go_roundg (gk - 1)
        case measure => have := HQ.out; omega
        case rel => exact ⟨i + 1, r, r2, by have := HQ.out; omega, by simp, HN1.out, HN2.out, HMS.out.1, HMS.out.2, by rw [HL.out, longsV, if_neg (by have h9 := HD.out; have h8 : D = 0 := (by simpa using hDb); omega)], HG.out.trans (by repeat' first | exact Grows.refl _ | refine Grows.drewN ?_ _ | refine Grows.drew ?_)⟩
      · have hDb : (D != 0) = true := by simp [hD0]
        have hRD : R = D := by
          have h1 := HL.out
          rw [longsV, if_pos (by have := HD.out; omega), HD.out] at h1
          rw [← HR.out]
          unfold betterV
          rw [h1, if_pos hD0]
        subst hRD
        clear HR HL
        go_upto_region 4 with fail
        go_quiet (fail)
        go_wp2_with fail
        go_ret
        exact ⟨rfl, HG.out.trans (by repeat' first | exact Grows.refl _ | refine Grows.drewN ?_ _ | refine Grows.drew ?_)⟩
    · have hli : ¬ (i : Int) < (M : Int) := by omega
      have hlb : decide (i < M) = false := decide_eq_false hi
      have hL0 : longsV a b = 0 := by
        rw [hL]
        have h5 := hS1.len
        have h6 := hS2.len
        have h7 := HM.out
        cases a1 with
        | nil => simp [longsV]
        | cons l k r =>
          cases b1 with
          | nil => simp [longsV]
          | cons l2 k2 r2 => simp only [Wy.len] at h5 h6; omega
      have hR2 : withB a b = R := by
        rw [← HR.out]
        unfold betterV
        rw [hL0, if_neg (by simp)]
      have HR2 := Lib.hid hR2
      have HG := Lib.hid hg
      clear hS1 hS2 hm1 hm2 hL hg hq hL0 hR2 HR hi
      go_wp2_with fail
      obtain ⟨w1, hw1⟩ : ∃ z, z = wr := ⟨_, rfl⟩
      subst hw1
      go_loopg [37] M (fun q v37 wr => ∃ (i : Nat) (a1 b1 : Wy), q + i = M ∧ v37 = .int .i64 i ∧ WySuf ok w a xs i a1 ∧ WySuf ok w b ys i b1 ∧ WySm a1 ∧ WySm b1 ∧ AllWy BetC a1 ∧ withB a1 b1 = R ∧ Grows w wr)
      case atStart => exact ⟨0, a, b, by omega, rfl, HA0.out, HB0.out, HSA.out, HSB.out, HK.out, HR2.out, HG.out⟩
      case round =>
        obtain ⟨i, a1, b1, hq, rfl, hS1, hS2, hm1, hm2, hk1, hL, hg⟩ := hrel
        by_cases hi : i < M
        · cases a1 with
          | nil => have h5 := hS1.len; have h6 := HM.out; simp only [Wy.len] at h5; omega
          | cons l k r =>
          cases b1 with
          | nil => have h5 := hS2.len; have h6 := HM.out; simp only [Wy.len] at h5; omega
          | cons l2 k2 r2 =>
          obtain ⟨hN1, -, A1, c1, hx0, hA1⟩ := hS1.next
          obtain ⟨hN2, -, A2, c2, hy0, hA2⟩ := hS2.next
          obtain ⟨b1, o1, e1, hin1, hc1⟩ := HXS.out.rd.2 (by have := HM.out; omega)
          obtain ⟨b2, o2, e2, hin2, hc2⟩ := HYS.out.rd.2 (by have := HM.out; omega)
          subst e1 e2
          have d1 := cellG (hc1 _ _ hx0) hg
          have d2 := cellG (hc2 _ _ hy0) hg
          rw [Nat.mul_comm 2 i, ← Nat.add_assoc] at d1 d2
          have j1 : InHeap b1 wr := World.block_lt_of_cell? _ _ d1
          have j2 : InHeap b2 wr := World.block_lt_of_cell? _ _ d2
          have hcall : ∀ mm : More, Calls Tryd.prog 31 #[.slice A1 k.len c1, .slice A2 k2.len c2] (more wr mm) fun e w' => e = .returned (.int .i64 (betterV k k2)) ∧ Grows (more wr mm) w' := fun mm => hk1.1 k2 ok A1 c1 A2 c2 (more wr mm) (hA1.grows (hg.trans ⟨mm, rfl⟩)) (hA2.grows (hg.trans ⟨mm, rfl⟩)) hm1.2.1 hm2.2.1
          have hli : (i : Int) < (M : Int) := by omega
          have hia : i < a.len := by have := HM.out; omega
          have hib : i < b.len := by have := HM.out; omega
          have hiai : (i : Int) < a.len := by omega
          have hibi : (i : Int) < b.len := by omega
          have HN1 := Lib.hid hN1
          have HN2 := Lib.hid hN2
          have HMS := Lib.hid (And.intro hm1.2.2 (And.intro hm2.2.2 hk1.2))
          rw [withB_cons] at hL
          obtain ⟨D, hD⟩ : ∃ D, betterV k k2 = D := ⟨_, rfl⟩
          rw [hD] at hL hcall
          have HL := Lib.hid hL
          have HG2 := Lib.hid hg
          have HQ := Lib.hid hq
          clear hS1 hS2 hm1 hm2 hk1 hL hg hq hN1 hN2 hx0 hy0 hc1 hc2 hA1 hA2 hD
          go_upto_region 11 with fail
          refine region_grows (by kernel_rfl) (by kernel_rfl) ?_
          repeat (go_big_quiet_step ((go_at_call 31; exact calls_grows (hcall _))))
          refine wpQuiet_nil ?_
          intro _ hw'
          obtain ⟨m1, rfl⟩ := hw'
          have HG3 := Lib.hid (HG2.out.trans ⟨m1, rfl⟩ : Grows w (more wr m1))
          clear hcall d1 d2 j1 j2
          generalize more wr m1 = w3 at *
          by_cases hD0 : D = 0
          · have hDb : (D != 0) = false := by simp [hD0]
            have hL2 : withB r r2 = R := by have := HL.out; rw [if_neg (by simp [hD0])] at this; exact this
            have HL2 := Lib.hid hL2
            clear hD0 HL hL2
            go_wp2_with fail
            go_roundg (gk - 1)
            case measure => have := HQ.out; omega
            case rel => exact ⟨i + 1, r, r2, by have := HQ.out; omega, by simp, HN1.out, HN2.out, HMS.out.1, HMS.out.2.1, HMS.out.2.2, HL2.out, HG3.out⟩
          · have hDb : (D != 0) = true := by simp [hD0]
            have hRD : R = D := by have := HL.out; rw [if_pos hD0] at this; exact this.symm
            subst hRD
            clear HL HR2
            go_wp2_with fail
            go_ret
            exact ⟨rfl, HG3.out⟩
        · have hli : ¬ (i : Int) < (M : Int) := by omega
          have hlb : decide (i < M) = false := decide_eq_false hi
          have hR0 : R = 0 := by
            rw [← hL]
            have h5 := hS1.len
            have h6 := hS2.len
            have h7 := HM.out
            cases a1 with
            | nil => simp [withB]
            | cons l k r =>
              cases b1 with
              | nil => simp [withB]
              | cons l2 k2 r2 => simp only [Wy.len] at h5 h6; omega
          subst hR0
          have HG4 := Lib.hid hg
          clear hS1 hS2 hm1 hm2 hk1 hL hg hq hi HR2
          go_wp2_with fail
          go_ret
          exact ⟨rfl, HG4.out⟩
set_option maxRecDepth 3000 in
theorem better_any (a : Wy) : BetC a := (allWy_of better_of a).1
end Go.Proofs.YtnjagecmhdagkaaDoor
