/-
  Classes: the document's Parse, walked.
-/
import Derived.Test.YtmobcljinfoacaaDoorPk20
import Derived.Test.YtmobcljinfoacaaDoorPk37
namespace Go.Proofs.YtmobcljinfoacaaDoor
open Go.RowKit

attribute [local go_sem] tx_bt tx_from SA_getElem
attribute [local go_sem ↓] zero22
set_option maxRecDepth 3000 in
theorem partV_rest {t : List UInt8} {x : (Int → Bool) × List UInt8} (h : partV t = some x) : ∃ n, n ≤ t.length ∧ x.2 = t.drop n := by
  unfold partV at h
  split at h
  · cases h
  rename_i h0
  have hl : 0 < t.length := List.length_pos_iff.2 h0
  split at h
  · rw [Option.bind_eq_some_iff] at h
    obtain ⟨c, hc, h⟩ := h
    rw [Option.map_eq_some_iff] at h
    obtain ⟨y, _, rfl⟩ := h
    have h1 := cutV_split hc
    have h2 := cutV_len hc
    rw [List.length_drop] at h2
    refine ⟨2 + (c.1.length + 2), by omega, ?_⟩
    rw [← List.drop_drop, h1, ← List.drop_drop]
    simp
  split at h
  · cases h
  split at h
  · rename_i h2
    split at h
    · injection h with h; subst h; exact ⟨3, by omega, rfl⟩
    · cases h
  · injection h with h; subst h; exact ⟨1, by omega, rfl⟩
set_option maxRecDepth 3000 in
theorem part_at {s : List UInt8} {i : Nat} {x : (Int → Bool) × List UInt8} (h : partV (s.drop i) = some x) (hi : i ≤ s.length) : i < s.length - x.2.length ∧ s.length - x.2.length ≤ s.length ∧ x.2 = s.drop (s.length - x.2.length) := by
  have h1 := partV_len h
  obtain ⟨n, hn, hx⟩ := partV_rest h
  rw [List.drop_drop] at hx
  have h2 : x.2.length = s.length - (i + n) := by rw [hx, List.length_drop]
  rw [List.length_drop] at h1 hn
  refine ⟨by omega, by omega, ?_⟩
  rw [show s.length - x.2.length = i + n by omega]
  exact hx
set_option maxRecDepth 3000 in
theorem alloc_more (w : World) (m : More) (o : Obj) : (more w m).alloc o = more w ⟨m.1.push o, m.2⟩ := by simp [more, World.alloc]
/-- The bytes below j joined. -/
def orTo (p q : Nat → Bool) (j : Nat) : Nat → Bool := fun c => if c < j then p c || q c else p c
set_option maxRecDepth 3000 in
theorem or_zero (p q : Nat → Bool) : SA (orTo p q 0) = SA p := SA_ext fun c _ => by simp [orTo]
set_option maxRecDepth 3000 in
theorem or_at (p q : Nat → Bool) (j : Nat) : orTo p q j j = p j := by simp [orTo]
set_option maxRecDepth 3000 in
theorem or_put (p q : Nat → Bool) (j : Nat) (d : Bool) (h : (p j || q j) = d) : (SA (orTo p q j)).setIfInBounds j (.bool d) = SA (orTo p q (j + 1)) := by
  rw [set_SA]
  refine SA_ext fun c _ => ?_
  unfold orTo
  by_cases h1 : c = j
  · subst h1; simp [h]
  · by_cases h2 : c < j
    · rw [if_neg h1, if_pos h2, if_pos (by omega)]
    · rw [if_neg h1, if_neg h2, if_neg (by omega)]
set_option maxRecDepth 3000 in
theorem or_end (p q : Nat → Bool) (j : Nat) (h : 256 ≤ j) : SA (orTo p q j) = SA fun c => p c || q c := SA_ext fun c hc => by
  unfold orTo; rw [if_pos (by omega)]
set_option maxRecDepth 3000 in
theorem or_same {p q r : Nat → Bool} (h : SA q = SA r) : (SA fun c => p c || q c) = SA fun c => p c || r c := SA_ext fun c hc => by
  have h1 := congrArg (fun a : Array Value => a[c]?) h
  simp only [get_SA _ _ hc, Option.some.injEq, Value.bool.injEq] at h1
  rw [h1]
abbrev Z22 : Obj := .cells (SA fun _ => false) 39
/-- The world of the document's Parse. -/
abbrev RW (w : World) (p : Nat → Bool) (m : More) : World := more (((w.alloc (.cells (SA fun _ => false) 39)).alloc (.cells (SA p) 39)).alloc (.cells (SA fun _ => false) 39)) m
set_option maxRecDepth 100000 in
set_option maxHeartbeats 4000000 in
theorem refParse_any (s : List UInt8) (at_ : Int) (w : World) (hl : s.length ≤ 1000000) (ha : I64 at_) : Calls Tryd.prog 34 #[.string (tx s), .int .i64 at_] w (ParsePost (parseA s at_) w) := by
  obtain ⟨ha1, ha2⟩ := ha
  go_enter Tryd.func34, Tryd.ntmps34
  by_cases h0 : at_ < 0
  · have hA := parseA_none (s := s) (at_ := at_) (by omega)
    have HA := Lib.hid hA
    clear hA
    go_wp2_with fail
    exact bodyPost_ret (v := .tuple #[.agg (SA fun _ => false), .int .i64 0, .int .i64 90]) (by simp [results, Tryd.results34, go_sem]) rfl ⟨by rw [HA.out], (by repeat' first | exact Grows.refl _ | refine Grows.more ?_ _ | refine Grows.alloc ?_ _ | refine Grows.drew ?_)⟩
  by_cases h1 : (s.length : Int) ≤ at_
  · have hA := parseA_none (s := s) (at_ := at_) (by omega)
    have HA := Lib.hid hA
    clear hA
    go_wp2_with fail
    exact bodyPost_ret (v := .tuple #[.agg (SA fun _ => false), .int .i64 0, .int .i64 90]) (by simp [results, Tryd.results34, go_sem]) rfl ⟨by rw [HA.out], (by repeat' first | exact Grows.refl _ | refine Grows.more ?_ _ | refine Grows.alloc ?_ _ | refine Grows.drew ?_)⟩
  obtain ⟨k, rfl⟩ : ∃ k : Nat, at_ = k := ⟨at_.toNat, by omega⟩
  have hk : k < s.length := by omega
  have hkc : (k : Int) < (s.length : Int) := by omega
  have hA := parseA_in hk
  have HA0 := Lib.hid hA
  clear hA
  by_cases h2 : bt s k = 91
  · have c2 : ((bt s k : Int) != 91) = false := by simp; omega
    have hh : (s.drop k).head? = some 91 := (head_bt s k 91 91 rfl).2 ⟨hk, h2⟩
    have he := head_bt s (k + 1) 94 94 rfl
    obtain ⟨i0, nt, hi0, hi1, hi2, hP, hcs⟩ : ∃ (i0 : Nat) (nt : Bool), k < i0 ∧ i0 ≤ s.length ∧ i0 = (if nt then k + 2 else k + 1) ∧ parseV (s.drop k) = ((loopF true (fun _ => false) (s.drop i0)).map fun x => (fun c => x.1 c != nt, (s.drop k).length - x.2.length + 1)) ∧
        ((nt = true ∧ k + 1 < s.length ∧ bt s (k + 1) = 94) ∨ (nt = false ∧ k + 1 < s.length ∧ bt s (k + 1) ≠ 94) ∨ (nt = false ∧ ¬k + 1 < s.length)) := by
      by_cases h3 : k + 1 < s.length ∧ bt s (k + 1) = 94
      · refine ⟨k + 2, true, by omega, by omega, rfl, ?_, .inl ⟨rfl, h3⟩⟩
        unfold parseV
        rw [if_pos hh, List.drop_drop, if_pos (he.2 h3), List.drop_drop]
      · refine ⟨k + 1, false, by omega, by omega, rfl, ?_, .inr ?_⟩
        · unfold parseV
          rw [if_pos hh, List.drop_drop, if_neg (fun h => h3 (he.1 h))]
        · by_cases h4 : k + 1 < s.length
          · exact .inl ⟨rfl, h4, fun h => h3 ⟨h4, h⟩⟩
          · exact .inr ⟨rfl, h4⟩
    have hA := HA0.out
    rw [hP] at hA
    have HA := Lib.hid hA
    clear hA HA0 hP hh h2 he
    have i1' : (0 : Int) ≤ (k : Int) + 1 := by omega
    have i2' : ((k : Int) + 1).toNat = k + 1 := by omega
    go_upto_region 5 with fail
    go_cut [10] (fun s10 wx => s10 = .bool nt ∧ wx = ((w.alloc (.cells (SA fun _ => false) 39)).alloc (.cells (SA fun _ => false) 39)).alloc (.cells (SA fun _ => false) 39))
    case first =>
      rcases hcs with ⟨rfl, h4, h5⟩ | ⟨rfl, h4, h5⟩ | ⟨rfl, h4⟩
      · have c3 : (k : Int) + 1 < (s.length : Int) := by omega
        have c4 : ((bt s (k + 1) : Int) == 94) = true := ieq_true (by omega)
        go_wp2_with fail
        go_meet
        case rel => exact ⟨rfl, rfl⟩
      · have c3 : (k : Int) + 1 < (s.length : Int) := by omega
        have c4 : ((bt s (k + 1) : Int) == 94) = false := ieq_false (by omega)
        go_wp2_with fail
        go_meet
        case rel => exact ⟨rfl, rfl⟩
      · have c3 : ¬(k : Int) + 1 < (s.length : Int) := by omega
        go_wp2_with fail
        go_meet
        case rel => exact ⟨rfl, rfl⟩
    case rest =>
      obtain ⟨rfl, rfl⟩ := hcut
      clear hcs
      go_upto_if 44 with fail
      go_cut [9] (fun s9 wx => s9 = .int .i64 i0 ∧ wx = ((w.alloc (.cells (SA fun _ => false) 39)).alloc (.cells (SA fun _ => false) 39)).alloc (.cells (SA fun _ => false) 39))
      case first =>
        cases nt with
        | true =>
          have HI : Hid (i0 = k + 2) := Lib.hid hi2
          clear hi2
          go_wp2_with fail
          go_meet
          case rel => exact ⟨by rw [HI.out]; go_num, rfl⟩
        | false =>
          have HI : Hid (i0 = k + 1) := Lib.hid hi2
          clear hi2
          go_wp2_with fail
          go_meet
          case rel => exact ⟨by rw [HI.out]; go_num, rfl⟩
      case rest =>
        obtain ⟨rfl, rfl⟩ := hcut
        clear hi2
        go_wp2_with fail
        go_loopg [9, 11, 12, 13, 14, 15] (s.length + 1) (fun q v9 v11 _ _ _ _ wr => ∃ (i : Nat) (f : Bool) (p : Nat → Bool) (m : More), q + i = s.length + 1 + i0 ∧ i0 ≤ i ∧ i ≤ s.length ∧ v9 = .int .i64 i ∧ v11 = .bool f ∧ loopF true (fun _ => false) (s.drop i0) = loopF f p (s.drop i) ∧ wr = RW w p m)
        case atStart => exact ⟨i0, true, fun _ => false, _, by omega, by omega, by omega, rfl, rfl, rfl, more_self _⟩
        case round =>
          obtain ⟨i, f, p, m, hq, hi3, hi4, rfl, rfl, hF, rfl⟩ := hrel
          have HQ := Lib.hid hq
          have HF := Lib.hid hF
          clear hq hF
          have hib : i ≤ 1000000 := by omega
          have hi0n : (0 : Int) ≤ (i : Int) := by omega
          by_cases hstop : f = false ∧ i < s.length ∧ bt s i = 93
          · obtain ⟨rfl, g1, g2⟩ := hstop
            have c5 : ¬(s.length : Int) ≤ (i : Int) := by omega
            have c5b : (i : Int) < (s.length : Int) := by omega
            have c6 : ((bt s i : Int) != 93) = false := by simp; omega
            have hF2 := HF.out
            rw [loopF_end p _ ((head_bt s i 93 93 rfl).2 ⟨g1, g2⟩)] at hF2
            have hA := HA.out
            rw [hF2] at hA
            simp only [Option.map_some] at hA
            have HA2 := Lib.hid hA
            have hsub : (k : Int) + (((s.drop k).length - (s.drop i).length + 1 : Nat) : Int) = i + 1 := by simp only [List.length_drop]; omega
            have HSUB := Lib.hid hsub
            clear hF2 hA HA HF hsub g2
            cases nt with
            | false =>
              have hnp : (SA fun c => p c != false) = SA p := SA_ext fun c _ => by simp
              have HNP := Lib.hid hnp
              clear hnp
              go_wp2_with fail
              go_loopg [16] 1 (fun q v16 wr => v16 = .int .i64 0 ∧ wr = RW w p m)
              case atStart => exact ⟨rfl, rfl⟩
              case round =>
                obtain ⟨rfl, rfl⟩ := hrel
                go_wp2_with fail
                exact bodyPost_ret (v := .tuple #[.agg (SA p), .int .i64 ((i : Int) + 1), .int .i64 0]) (by simp [results, Tryd.results34, go_sem]) rfl ⟨by rw [HA2.out]; simp only []; rw [HNP.out, HSUB.out], (by repeat' first | exact Grows.refl _ | refine Grows.more ?_ _ | refine Grows.alloc ?_ _ | refine Grows.drew ?_)⟩
            | true =>
              have HNP : Hid ((SA fun c => p c != true) = SA fun c => !p c) := Lib.hid (SA_ext fun c _ => by simp)
              go_wp2_with fail
              go_loopg [16] 256 (fun q v16 wr => ∃ j : Nat, q + j = 256 ∧ v16 = .int .i64 j ∧ wr = RW w (flipTo p true j) m)
              case atStart => exact ⟨0, by omega, rfl, by unfold RW; rw [flip_zero]⟩
              case round =>
                obtain ⟨j, hq2, rfl, rfl⟩ := hrel
                have HQ2 := Lib.hid hq2
                clear hq2
                by_cases h3 : j < 256
                · have j0 : (0 : Int) ≤ (j : Int) := by omega
                  have j1 : (j : Int) < 256 := by omega
                  have hfj := flip_at p true j
                  have hfs := flip_put p true j (!p j) (by cases p j <;> rfl)
                  go_wp2_with fail
                  go_roundg (gk - 1)
                  case measure => have := HQ2.out; omega
                  case rel => exact ⟨j + 1, by have := HQ2.out; omega, by go_num, rfl⟩
                · have hfe := flip_end p true j (by omega)
                  have j1 : ¬(j : Int) < 256 := by omega
                  go_wp2_with fail
                  exact bodyPost_ret (v := .tuple #[.agg (SA fun c => !p c), .int .i64 ((i : Int) + 1), .int .i64 0]) (by simp [results, Tryd.results34, go_sem]) rfl ⟨by rw [HA2.out]; simp only []; rw [HNP.out, HSUB.out], (by repeat' first | exact Grows.refl _ | refine Grows.more ?_ _ | refine Grows.alloc ?_ _ | refine Grows.drew ?_)⟩
          · have hst2 : ¬(f = false ∧ (s.drop i).head? = some 93) := fun h => hstop ⟨h.1, (head_bt s i 93 93 rfl).1 h.2⟩
            have HL1 : Hid (partV (s.drop i) = none → loopF true (fun _ => false) (s.drop i0) = none) := Lib.hid fun h => by rw [HF.out]; exact loopF_none hst2 h
            have HL2 : Hid (∀ x, partV (s.drop i) = some x → loopF true (fun _ => false) (s.drop i0) = loopF false (fun c => p c || x.1 c) x.2) := Lib.hid fun x h => by rw [HF.out]; exact loopF_next hst2 h
            clear HF hst2
            have hcs : f = true ∨ (f = false ∧ ¬i < s.length) ∨ (f = false ∧ i < s.length ∧ bt s i ≠ 93) := by
              cases f with
              | true => exact .inl rfl
              | false =>
                by_cases g : i < s.length
                · exact .inr (.inr ⟨rfl, g, fun h => hstop ⟨rfl, g, h⟩⟩)
                · exact .inr (.inl ⟨rfl, g⟩)
            clear hstop
            rcases hcs with rfl | ⟨rfl, g⟩ | ⟨rfl, g, g2⟩
            case' inl => skip
            case' inr.inl =>
              have c5 : (s.length : Int) ≤ (i : Int) := by omega
              clear g
            case' inr.inr =>
              have c5 : ¬(s.length : Int) ≤ (i : Int) := by omega
              have c5b : (i : Int) < (s.length : Int) := by omega
              have c6 : ((bt s i : Int) != 93) = true := by simp; omega
              clear g g2
            all_goals
              go_wp2_with fail
              (with_reducible refine (refPart_any s i _ (by omega) (by omega)).mono ?_)
              rintro e w1 ⟨q, n, b, rfl, hb, hv, m1, rfl⟩
              rw [more_more]
              generalize (⟨m.1 ++ m1.1, m1.2⟩ : More) = m3
              cases hpv : partV (s.drop i) with
              | none =>
                rw [hpv] at hb
                have hA := HA.out
                rw [HL1.out hpv] at hA
                simp only [Option.isSome_none] at hb
                simp only [Option.map_none] at hA
                subst hb
                have HA2 := Lib.hid hA
                clear hv hA HA HL1 HL2
                go_wp2_with fail
                exact bodyPost_ret (v := .tuple #[.agg (SA fun _ => false), .int .i64 0, .int .i64 90]) (by simp [results, Tryd.results34, go_sem]) rfl ⟨by rw [HA2.out], (by repeat' first | exact Grows.refl _ | refine Grows.more ?_ _ | refine Grows.alloc ?_ _ | refine Grows.drew ?_)⟩
              | some x =>
                rw [hpv] at hb
                obtain ⟨rfl, hqx⟩ := hv x hpv
                obtain ⟨p1, p2, p3⟩ := part_at hpv hi4
                have hF2 := HL2.out x hpv
                rw [p3] at hF2
                have HF2 := Lib.hid hF2
                have HOR := Lib.hid (or_same (p := p) hqx)
                simp only [Option.isSome_some] at hb
                subst hb
                clear hv hF2 HL1 HL2 hpv p3 hqx
                generalize hni : s.length - x.2.length = ni at *
                clear hni
                try (exfalso; omega)
                all_goals
                  go_wp2_with fail
                  go_loopg [15] 256 (fun u v15 wr => ∃ j : Nat, u + j = 256 ∧ v15 = .int .i64 j ∧ wr = (RW w (orTo p q j) m3).alloc (.cells (SA q) 39))
                  case atStart => exact ⟨0, by omega, rfl, by unfold RW; rw [or_zero]⟩
                  case round =>
                    obtain ⟨j, hq2, rfl, rfl⟩ := hrel
                    have HQ2 := Lib.hid hq2
                    clear hq2
                    by_cases h3 : j < 256
                    · have j0 : (0 : Int) ≤ (j : Int) := by omega
                      have j1 : (j : Int) < 256 := by omega
                      have hoj := or_at p q j
                      cases hd : p j with
                      | true =>
                        rw [hd] at hoj
                        have hos := or_put p q j true (by rw [hd]; rfl)
                        clear hd
                        go_wp2_with fail
                        go_roundg (gk - 1)
                        case measure => have := HQ2.out; omega
                        case rel => exact ⟨j + 1, by have := HQ2.out; omega, by go_num, rfl⟩
                      | false =>
                        rw [hd] at hoj
                        have hos := or_put p q j (q j) (by rw [hd]; rfl)
                        clear hd
                        go_wp2_with fail
                        go_roundg (gk - 1)
                        case measure => have := HQ2.out; omega
                        case rel => exact ⟨j + 1, by have := HQ2.out; omega, by go_num, rfl⟩
                    · have HFE := Lib.hid (or_end p q j (by omega))
                      have j1 : ¬(j : Int) < 256 := by omega
                      go_wp2_with fail
                      go_roundg (s.length + 1 + i0 - ni)
                      case measure => have := HQ.out; omega
                      case rel => exact ⟨ni, false, fun c => p c || x.1 c, _, by omega, by omega, by omega, rfl, rfl, HF2.out, by rw [alloc_more, HFE.out, HOR.out]⟩
  · have c2 : ((bt s k : Int) != 91) = true := by simp; omega
    have hA := HA0.out
    rw [show parseV (s.drop k) = none by unfold parseV; rw [if_neg (fun h => h2 ((head_bt s k 91 91 rfl).1 h).2)]] at hA
    simp only [] at hA
    have HA := Lib.hid hA
    clear hA HA0 h2
    go_wp2_with fail
    exact bodyPost_ret (v := .tuple #[.agg (SA fun _ => false), .int .i64 0, .int .i64 90]) (by simp [results, Tryd.results34, go_sem]) rfl ⟨by rw [HA.out], (by repeat' first | exact Grows.refl _ | refine Grows.more ?_ _ | refine Grows.alloc ?_ _ | refine Grows.drew ?_)⟩
end Go.Proofs.YtmobcljinfoacaaDoor
