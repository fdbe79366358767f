/-
  The law MatchNone: a pattern that is none matches nothing; the empty one is found at each place.
-/
import Derived.Test.YtnjagecmhdagkaaDoorPk38
namespace Go.Proofs.YtnjagecmhdagkaaDoor
open Go.RowKit

set_option maxRecDepth 3000 in
theorem ends_nil (s : List UInt8) (a i : Nat) : endsF s .nil a i = true ↔ i = a := by simp [endsF, endsR, one1]
set_option maxRecDepth 3000 in
theorem maxOf_eq {P : Pl} {a : Nat} (h : ∀ i, P i = true ↔ i = a) : ∀ {n : Nat}, a ≤ n → maxOf P n = some a := by
  intro n
  induction n with
  | zero => intro h2; obtain rfl : a = 0 := by omega
            simp [maxOf, (h 0).2 rfl]
  | succ n ih =>
    intro h2
    simp only [maxOf]
    by_cases hn : P (n + 1) = true
    · rw [if_pos hn, (h _).1 hn]
    · rw [if_neg hn]
      exact ih (by have : ¬ n + 1 = a := fun e => hn ((h _).2 e); omega)
/-- What the empty pattern matches. -/
def noneG (k : Nat) : Spn := spSet spNone 0 k k
set_option maxRecDepth 3000 in
theorem plain_empty (s : List UInt8) (k : Nat) (hk : k ≤ s.length) : plainV s .nil (s.length + 1 - k) k = some (noneG k) := by
  obtain ⟨n, hn⟩ : ∃ n, s.length + 1 - k = n + 1 := ⟨s.length - k, by omega⟩
  rw [hn]
  simp only [plainV]
  rw [maxOf_eq (ends_nil s k) hk]
  rfl
set_option maxRecDepth 3000 in
theorem match_empty (s : List UInt8) (k fuel : Int) : matchR s .nil false k fuel = if k < 0 ∨ (s.length : Int) < k then (spZero, false, 0) else (noneG k.toNat, true, 0) := by
  unfold matchR
  split
  · rw [if_neg (by simp)]
  · rename_i h
    rw [if_neg Bool.false_ne_true, plain_empty s k.toNat (by omega)]
set_option maxRecDepth 3000 in
theorem pat_empty : patV [] = some (.nil, ⟨[], 0, 0, false, []⟩) := rfl
attribute [local go_sem ↓] ldSp_eq stSp_eq zeroSp bldSp_eq
attribute [local go_sem] loadSp loadSp_if storeSp storeSp_if spC_one bldSp_run eq_two eq_zero
set_option maxRecDepth 3000 in
theorem bre_empty (w : World) (hs : Sane w) : Calls Tryd.prog 10 #[.string ⟨#[]⟩] w (ParsedPost w (some (.nil, ⟨[], 0, 0, false, []⟩))) := bre_parse [] w (by decide) hs
set_option maxRecDepth 100000 in
set_option maxHeartbeats 4000000 in
theorem match_none (s : List UInt8) (k fuel : Int) (w : World) (hw : Sane w) (htz : TzAt w) :
    Calls Tryd.prog 3 #[.string (tx s), .int .i64 k, .int .i64 fuel] w fun e w' => e = .returned (.bool true) ∧ Grows w w' := by
  by_cases hs : 1000 < s.length
  · have hsi : (1000 : Int) < (s.length : Int) := by omega
    go_enter Tryd.func3, Tryd.ntmps3
    go_wp2_with fail
    go_ret
    exact ⟨rfl, Grows.refl _⟩
  have hsi : ¬ (1000 : Int) < (s.length : Int) := by omega
  have h1 := over_zero
  have hspz := span_zero
  have hz : (spC spZero).size = 20 := by rw [spC_size]; rfl
  have hm := match_nil s k fuel w
  unfold mtV at hm
  have HW := Lib.hid hw
  have HTZ := Lib.hid htz
  clear hw htz
  go_enter Tryd.func3, Tryd.ntmps3
  go_wp2_with fail
  (with_reducible refine hm.mono ?_)
  rintro e9 w1 ⟨rfl, hg1⟩
  clear hm
  have hg2 : Grows w1 (w1.alloc (.cells (spC spZero) 23)) := (Grows.refl _).alloc _
  have HG2 := Lib.hid (hg1.trans hg2)
  have hcall := bre_empty (w1.alloc (.cells (spC spZero) 23)) (HW.out.grows HG2.out)
  clear hg1 hg2
  go_upto_region 6 with fail
  generalize w1.alloc (.cells (spC spZero) 23) = w2 at *
  go_wp2_with fail
  (with_reducible refine hcall.mono ?_)
  rintro e9 w3 ⟨g, rfl, hre, hgl, hg3⟩
  have hm := match_any (s := s) (k := k) (fuel := fuel) (by omega) .nil ⟨[], 0, 0, false, []⟩ trivial (by decide) (fun h => by cases h) _ g w3 hre (HTZ.out.grows (HG2.out.trans hg3))
  rw [show (PS.mk [] 0 0 false []).refs = false from rfl, match_empty] at hm
  have HG3 := Lib.hid (HG2.out.trans hg3)
  clear hre hgl hg3 hcall HG2
  by_cases hkn : k < 0 ∨ (s.length : Int) < k
  · rw [if_pos hkn] at hm
    unfold mtV at hm
    go_wp2_with fail
    (with_reducible refine hm.mono ?_)
    rintro e9 w4 ⟨⟨rfl, -⟩, hg4⟩
    have hg5 : Grows w4 (w4.alloc (.cells (spC spZero) 23)) := (Grows.refl _).alloc _
    have HG5 := Lib.hid ((HG3.out.trans hg4).trans hg5)
    have hb5 : blk (w4.alloc (.cells (spC spZero) 23)) w4.heap.size = spC spZero := blk_alloc_at _ _ _ _ rfl
    have hdo := does_any (w4.alloc (.cells (spC spZero) 23)) (HW.out.grows HG5.out) (HTZ.out.grows HG5.out)
    clear hm hg4 hg5
    rcases (Decidable.em (k < 0)) with hk1 | hk1
    · have hk2 : ¬ (0 : Int) ≤ k := by omega
      have hkd : decide ((0 : Int) ≤ k) = false := decide_eq_false hk2
      go_wp2_with fail
      (with_reducible refine hdo.mono ?_)
      rintro e9 w6 ⟨rfl, hg6⟩
      go_wp2_with fail
      go_ret
      exact ⟨rfl, HG5.out.trans hg6⟩
    · have hk2 : (0 : Int) ≤ k := by omega
      have hk3 : ¬ k ≤ (s.length : Int) := by omega
      go_wp2_with fail
      (with_reducible refine hdo.mono ?_)
      rintro e9 w6 ⟨rfl, hg6⟩
      go_wp2_with fail
      go_ret
      exact ⟨rfl, HG5.out.trans hg6⟩
  · rw [if_neg hkn] at hm
    have hk2 : (0 : Int) ≤ k := by omega
    have hk3 : k ≤ (s.length : Int) := by omega
    obtain ⟨k0, rfl⟩ : ∃ k0 : Nat, k = k0 := ⟨k.toNat, by omega⟩
    rw [Int.toNat_natCast] at hm
    obtain ⟨m, hmG⟩ : ∃ m, noneG k0 = m := ⟨_, rfl⟩
    have hml : m.length = 20 := by rw [← hmG]; rfl
    have m0 : m.getD 0 0 = (k0 : Int) := by rw [← hmG]; rfl
    have m1 : m.getD 1 0 = (k0 : Int) := by rw [← hmG]; rfl
    have m2 : m.getD 2 0 = -1 := by rw [← hmG]; rfl
    have m3 : m.getD 3 0 = -1 := by rw [← hmG]; rfl
    rw [hmG] at hm
    unfold mtV at hm
    clear hmG hkn
    go_wp2_with fail
    (with_reducible refine hm.mono ?_)
    rintro e9 w4 ⟨⟨rfl, -⟩, hg4⟩
    have hgs : (spC m).size = 20 := by rw [spC_size]; exact hml
    have hov : over (spC spZero) 0 (spC m) = spC m := over_all (by omega)
    have hg5 : Grows w4 (w4.alloc (.cells (spC m) 23)) := (Grows.refl _).alloc _
    have HG5 := Lib.hid ((HG3.out.trans hg4).trans hg5)
    have hb5 : blk (w4.alloc (.cells (spC m) 23)) w4.heap.size = spC m := blk_alloc_at _ _ _ _ rfl
    have hdo := does_any (w4.alloc (.cells (spC m) 23)) (HW.out.grows HG5.out) (HTZ.out.grows HG5.out)
    have c0 := (Blk.cell hb5 (by omega) 0).trans (spC_get (by omega))
    have c1 := (Blk.cell hb5 (by omega) 1).trans (spC_get (by omega))
    have c2 := (Blk.cell hb5 (by omega) 2).trans (spC_get (by omega))
    have c3 := (Blk.cell hb5 (by omega) 3).trans (spC_get (by omega))
    rw [m0] at c0
    rw [m1] at c1
    rw [m2] at c2
    rw [m3] at c3
    clear hm hg4 hg5 m0 m1 m2 m3
    go_upto_region 8 with fail
    obtain ⟨bM, hbM⟩ : ∃ z, z = w4.heap.size := ⟨_, rfl⟩
    rw [← hbM] at c0 c1 c2 c3 hb5 ⊢
    have iM := Blk.inHeap hb5 (by omega)
    clear hbM hb5 hov
    generalize w4.alloc (.cells (spC m) 23) = w5 at *
    go_wp2_with fail
    (with_reducible refine hdo.mono ?_)
    rintro e9 w6 ⟨rfl, hg6⟩
    go_wp2_with fail
    go_ret
    exact ⟨rfl, HG5.out.trans hg6⟩
end Go.Proofs.YtnjagecmhdagkaaDoor
