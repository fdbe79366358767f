/-
  The law MatchItself, walked.
-/
import Derived.Test.YtnjagecmhdagkaaDoorPqMatchItselfHolds47
set_option linter.unusedSimpArgs false
set_option linter.unusedVariables false
namespace Go.Proofs.YtnjagecmhdagkaaDoor
open Go.RowKit

set_option maxRecDepth 3000 in
theorem litA_plain {p : List UInt8} (hp : ∀ c ∈ p, PlainB c) : PlainA (litA p) := by
  intro x hx
  obtain ⟨c, hc, rfl⟩ := List.mem_map.1 hx
  exact hp c hc
set_option maxRecDepth 3000 in
theorem txtV_plain (ns : List Int) : ∀ c ∈ txtV ns, PlainB c := by
  intro c hc
  obtain ⟨n, _, rfl⟩ := List.mem_map.1 hc
  exact abc_plain _
set_option maxRecDepth 3000 in
theorem lit_yes {p s : List UInt8} (hp : ∀ c ∈ p, PlainB c) (hl : p.length ≤ 200) {k i : Nat} (h1 : k ≤ i) (h2 : i + p.length ≤ s.length) (h3 : (s.drop i).take p.length = p) (h4 : ∀ b, k ≤ b → b < i → (s.drop b).take p.length ≠ p) :
    ∃ g, atR p s k = (g, true) ∧ g.getD 0 0 = (i : Int) ∧ g.getD 1 0 = ((i + p.length : Nat) : Int) := by
  have h := rowA_some (litA_plain hp) (by rw [partsA_lit]; exact hl) (s := s) (k := k) (a := i) (e := i + p.length) h1 (by omega) h2 (fun b hb1 hb2 j _ hj hf => h4 b hb1 hb2 ((fit_lit (by omega)).1 hf).2.2) ((fit_lit (by omega)).2 ⟨rfl, h2, h3⟩) (fun j hj1 hj2 hf => by
    have := ((fit_lit (by omega)).1 hf).1
    omega)
  rw [patA_lit] at h
  exact h
set_option maxRecDepth 3000 in
theorem lit_no {p s : List UInt8} (hp : ∀ c ∈ p, PlainB c) (hl : p.length ≤ 200) {k : Nat} (h4 : ∀ b, k ≤ b → b + p.length ≤ s.length → (s.drop b).take p.length ≠ p) : atR p s k = (spZero, false) := by
  have h := rowA_none (litA_plain hp) (by rw [partsA_lit]; exact hl) (s := s) (k := k) (fun b hb j hj1 hj2 hf => by
    obtain ⟨q1, q2, q3⟩ := (fit_lit (by omega)).1 hf
    exact h4 b hb (by omega) q3)
  rwa [patA_lit] at h
attribute [local go_sem ↓] ldSp_eq stSp_eq zeroSp bldSp_eq
attribute [local go_sem] loadSp loadSp_if storeSp storeSp_if spC_one bldSp_run eq_two
set_option maxRecDepth 100000 in
set_option maxHeartbeats 4000000 in
theorem match_itself (A1 : Option Addr) (c1 : Nat) (ns : List Int) (A2 : Option Addr) (c2 : Nat) (hs : List Int) (x : Nat) (w : World) (hw : Sane w) (htz : TzAt w) (h1 : CameBytes w A1 c1 ns) (h2 : CameBytes w A2 c2 hs) (hx : x ≤ 255) :
    Calls Tryd.prog 6 #[.slice A1 ns.length c1, .slice A2 hs.length c2, .int .u8 x] w fun e w' => e = .returned (.bool true) ∧ Grows w w' := by
  have HW := Lib.hid hw
  have HTZ := Lib.hid htz
  have H1 := Lib.hid h1
  have H2 := Lib.hid h2
  have hl1 := h1.len
  have hl2 := h2.len
  clear hw htz h1 h2
  go_enter Tryd.func6, Tryd.ntmps6
  by_cases k1 : 30 < ns.length
  · have k1i : (30 : Int) < (ns.length : Int) := by omega
    go_wp2_with fail
    go_ret
    exact ⟨rfl, Grows.refl _⟩
  have k1i : ¬ (30 : Int) < (ns.length : Int) := by omega
  have k1b : decide (30 < ns.length) = false := decide_eq_false k1
  by_cases k2 : 30 < hs.length
  · have k2i : (30 : Int) < (hs.length : Int) := by omega
    go_wp2_with fail
    go_ret
    exact ⟨rfl, Grows.refl _⟩
  have k2i : ¬ (30 : Int) < (hs.length : Int) := by omega
  have k2b : decide (30 < hs.length) = false := decide_eq_false k2
  clear hl1 hl2
  have hcall := txt_any A1 c1 ns w H1.out (by omega)
  go_wp2_with fail
  (with_reducible refine hcall.mono ?_)
  rintro e9 w1 ⟨rfl, hg1⟩
  have hcall2 := txt_any A2 c2 hs w1 (H2.out.grows hg1) (by omega)
  have HG1 := Lib.hid hg1
  clear hcall hg1
  go_wp2_with fail
  (with_reducible refine hcall2.mono ?_)
  rintro e9 w2 ⟨rfl, hg2⟩
  have HG2 := Lib.hid (HG1.out.trans hg2)
  clear hcall2 hg2 HG1
  have HP := Lib.hid (txtV_plain ns)
  have lp := txtV_len ns
  have ls := txtV_len hs
  generalize txtV ns = p at *
  generalize txtV hs = s at *
  have ls9 : s.length ≤ 30 := by omega
  have lp9 : p.length ≤ 30 := by omega
  have hm : Int.tmod (x : Int) ((s.length : Int) + 1) = ((x % (s.length + 1) : Nat) : Int) := by rw [Int.tmod_eq_emod_of_nonneg (by omega)]; push_cast; rfl
  have hk9 : x % (s.length + 1) < s.length + 1 := Nat.mod_lt _ (by omega)
  obtain ⟨k, hk⟩ : ∃ k, x % (s.length + 1) = k := ⟨_, rfl⟩
  rw [hk] at hm hk9
  have hat := at_any p s k (by omega) (by omega) w2 (HW.out.grows HG2.out) (HTZ.out.grows HG2.out)
  obtain ⟨G, B, hGB⟩ : ∃ G B, atR p s k = (G, B) := ⟨_, _, rfl⟩
  rw [hGB] at hat
  have HGB := Lib.hid hGB
  clear k1 k1i k1b k2 k2i k2b lp ls hGB hk
  go_wp2_with fail
  (with_reducible refine hat.mono ?_)
  rintro e9 w3 ⟨⟨rfl, hl⟩, hg3⟩
  have hgs : (spC G).size = 20 := by rw [spC_size]; exact hl
  have hz : (spC spZero).size = 20 := by rw [spC_size]; rfl
  have hov : over (spC spZero) 0 (spC G) = spC G := over_all (by omega)
  have hg4 : Grows w3 (w3.alloc (.cells (spC G) 23)) := (Grows.refl _).alloc _
  have HG4 := Lib.hid ((HG2.out.trans hg3).trans hg4)
  have hb4 : blk (w3.alloc (.cells (spC G) 23)) w3.heap.size = spC G := blk_alloc_at _ _ _ _ rfl
  clear hat hg3 hg4 hm
  go_upto_region 6 with fail
  obtain ⟨bM, hbM⟩ : ∃ z, z = w3.heap.size := ⟨_, rfl⟩
  rw [← hbM] at hb4 ⊢
  clear hbM hov
  generalize w3.alloc (.cells (spC G) 23) = w4 at *
  have cc0 := (Blk.cell hb4 (by omega) 0).trans (spC_get (by omega))
  have cc1 := (Blk.cell hb4 (by omega) 1).trans (spC_get (by omega))
  have iM := Blk.inHeap hb4 (by omega)
  have hdo := does_any w4 (HW.out.grows HG4.out) (HTZ.out.grows HG4.out)
  clear hb4 hgs hz
  go_wp2_with fail
  go_loopg [12] (s.length + 2 - k) (fun q v12 wr => ∃ i : Nat, k ≤ i ∧ i ≤ s.length + 1 ∧ q + i = s.length + 2 ∧ v12 = .int .i64 i ∧ wr = w4 ∧ ∀ b, k ≤ b → b < i → (s.drop b).take p.length ≠ p)
  case atStart => exact ⟨k, by omega, by omega, by omega, rfl, rfl, fun b h1 h2 => by omega⟩
  case round =>
    obtain ⟨i, hi1, hi2, hq, rfl, rfl, hno⟩ := hrel
    have HQ := Lib.hid hq
    have HNO := Lib.hid hno
    clear hq hno
    by_cases hil : i + p.length ≤ s.length
    · have i1 : (i : Int) + (p.length : Int) ≤ (s.length : Int) := by omega
      have hx1 : (tx s).extract i (i + p.length) = tx ((s.drop i).take p.length) := by rw [tx_mid, Nat.add_sub_cancel_left]
      by_cases he : (s.drop i).take p.length = p
      · obtain ⟨g, q1, q2, q3⟩ := lit_yes HP.out (by omega) hi1 hil he HNO.out
        rw [HGB.out] at q1
        injection q1 with q1 q4
        subst q1
        subst q4
        rw [q2] at cc0
        rw [q3] at cc1
        rw [he] at hx1
        clear q2 q3 HNO he
        go_wp2_with fail
        (with_reducible refine hdo.mono ?_)
        rintro e9 w6 ⟨rfl, hg6⟩
        go_wp2_with fail
        go_ret
        exact ⟨rfl, HG4.out.trans hg6⟩
      · have hne : ((tx ((s.drop i).take p.length)).toList == (tx p).toList) = false := str_ne fun h => he (tx_inj h)
        go_wp2_with fail
        go_roundg (gk - 1)
        case measure => have := HQ.out; omega
        case rel => exact ⟨i + 1, by omega, by omega, by have := HQ.out; omega, by go_num, rfl, fun b h1 h2 => by
          rcases Nat.lt_or_ge b i with h | h
          · exact HNO.out b h1 h
          · obtain rfl : b = i := by omega
            exact he⟩
    · have i1 : ¬ (i : Int) + (p.length : Int) ≤ (s.length : Int) := by omega
      have hnone := lit_no (s := s) HP.out (by omega) (k := k) (fun b h1 h2 => HNO.out b h1 (by omega))
      rw [HGB.out] at hnone
      injection hnone with q1 q2
      subst q2
      clear q1 HNO HGB
      go_wp2_with fail
      (with_reducible refine hdo.mono ?_)
      rintro e9 w6 ⟨rfl, hg6⟩
      go_wp2_with fail
      go_ret
      exact ⟨rfl, HG4.out.trans hg6⟩
end Go.Proofs.YtnjagecmhdagkaaDoor
