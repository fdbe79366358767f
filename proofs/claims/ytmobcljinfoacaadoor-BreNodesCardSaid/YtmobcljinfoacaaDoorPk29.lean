/-
  Classes: Parse, walked.
-/
import Derived.Test.YtmobcljinfoacaaDoorPk17
namespace Go.Proofs.YtmobcljinfoacaaDoor
open Go.RowKit

attribute [local go_sem] tx_bt tx_from
attribute [local go_sem ↓] zero22
set_option maxRecDepth 3000 in
theorem SA_getElem (p : Nat → Bool) (j : Nat) (h : j < (SA p).size) : (SA p)[j]'h = .bool (p j) := by simp [SA]
attribute [local go_sem] SA_getElem
/-- The bytes below j turned, if so be. -/
def flipTo (p : Nat → Bool) (nt : Bool) (j : Nat) : Nat → Bool := fun c => if c < j then p c != nt else p c
set_option maxRecDepth 3000 in
theorem flip_zero (p : Nat → Bool) (nt : Bool) : SA (flipTo p nt 0) = SA p := SA_ext fun c _ => by simp [flipTo]
set_option maxRecDepth 3000 in
theorem flip_at (p : Nat → Bool) (nt : Bool) (j : Nat) : flipTo p nt j j = p j := by simp [flipTo]
set_option maxRecDepth 3000 in
theorem flip_set (p : Nat → Bool) (nt : Bool) (j : Nat) : (SA (flipTo p nt j)).setIfInBounds j (.bool (p j != nt)) = SA (flipTo p nt (j + 1)) := by
  rw [set_SA]
  refine SA_ext fun c _ => ?_
  unfold flipTo
  by_cases h : c = j
  · subst h; simp
  · by_cases h2 : c < j
    · rw [if_neg h, if_pos h2, if_pos (by omega)]
    · rw [if_neg h, if_neg h2, if_neg (by omega)]
set_option maxRecDepth 3000 in
theorem flip_put (p : Nat → Bool) (nt : Bool) (j : Nat) (d : Bool) (h : (p j != nt) = d) : (SA (flipTo p nt j)).setIfInBounds j (.bool d) = SA (flipTo p nt (j + 1)) := by rw [← h]; exact flip_set p nt j
set_option maxRecDepth 3000 in
theorem flip_end (p : Nat → Bool) (nt : Bool) (j : Nat) (h : 256 ≤ j) : SA (flipTo p nt j) = SA fun c => p c != nt := SA_ext fun c hc => by
  unfold flipTo; rw [if_pos (by omega)]
set_option maxRecDepth 3000 in
theorem mk_tx (l : List UInt8) : (⟨l.toArray⟩ : ByteArray) = tx l := rfl
set_option maxRecDepth 3000 in
theorem lit_data (a : Array UInt8) : (ByteArray.mk a).data.toList = a.toList := rfl
/-- Parse's ending. -/
def ParsePost (r : (Nat → Bool) × Int × Int) (w : World) (e : Ending) (w' : World) : Prop := e = .returned (.tuple #[.agg (SA r.1), .int .i64 r.2.1, .int .i64 r.2.2]) ∧ Grows w w'
set_option maxRecDepth 100000 in
set_option maxHeartbeats 4000000 in
theorem parse_any (s : List UInt8) (at_ : Int) (w : World) (hl : s.length ≤ 1000000) (hs : Sane w) (ha : I64 at_) : Calls Tryd.prog 28 #[.string (tx s), .int .i64 at_] w (ParsePost (parseA s at_) w) := by
  obtain ⟨ha1, ha2⟩ := ha
  go_enter Tryd.func28, Tryd.ntmps28
  by_cases h0 : at_ < 0
  · have hA := parseA_none (s := s) (at_ := at_) (by omega)
    have HA := Lib.hid hA
    clear hA
    go_wp2_with fail
    exact bodyPost_ret (v := .tuple #[.agg (SA fun _ => false), .int .i64 0, .int .i64 90]) (by simp [results, Tryd.results28, go_sem]) rfl ⟨by rw [HA.out], (Grows.refl _).alloc _⟩
  by_cases h1 : (s.length : Int) ≤ at_
  · have hA := parseA_none (s := s) (at_ := at_) (by omega)
    have HA := Lib.hid hA
    clear hA
    go_wp2_with fail
    exact bodyPost_ret (v := .tuple #[.agg (SA fun _ => false), .int .i64 0, .int .i64 90]) (by simp [results, Tryd.results28, go_sem]) rfl ⟨by rw [HA.out], (Grows.refl _).alloc _⟩
  obtain ⟨k, rfl⟩ : ∃ k : Nat, at_ = k := ⟨at_.toNat, by omega⟩
  have hk : k < s.length := by omega
  have hA := parseA_in hk
  have hx : (tx s).extract k s.length = tx (s.drop k) := tx_from s k
  have hkl : (k : Int) ≤ (s.length : Int) := by omega
  have hdl : (s.drop k).length = s.length - k := by simp
  generalize hT : s.drop k = t at *
  have HA0 := Lib.hid hA
  clear hA
  go_wp2_with fail
  (with_reducible refine (Tryd.strings_CutPrefix _ _ _).mono ?_)
  rw [tx_data, lit_data, trimPrefix_one, hasPrefix_one]
  rintro e w1 ⟨rfl, rfl⟩
  by_cases h2 : t.head? = some 91
  · rw [if_pos h2, show decide (t.head? = some 91) = true from by simpa using h2, mk_tx]
    obtain ⟨u, hu⟩ : ∃ u, t.drop 1 = u := ⟨_, rfl⟩
    rw [hu]
    go_wp2_with fail
    (with_reducible refine (Tryd.strings_CutPrefix _ _ _).mono ?_)
    rw [tx_data, lit_data, trimPrefix_one, hasPrefix_one]
    rintro e w1 ⟨rfl, rfl⟩
    obtain ⟨r, nt, hr1, hr2, hrl, hP⟩ : ∃ (r : List UInt8) (nt : Bool), (if u.head? = some 94 then u.drop 1 else u) = r ∧ decide (u.head? = some 94) = nt ∧ r.length ≤ t.length ∧ parseV t = (loopF true (fun _ => false) r).map fun x => (fun c => x.1 c != nt, t.length - x.2.length + 1) := by
      subst hu
      by_cases h3 : (t.drop 1).head? = some 94
      · refine ⟨t.drop 2, true, by rw [if_pos h3, List.drop_drop], by simpa using h3, by simp, ?_⟩
        unfold parseV; rw [if_pos h2, if_pos h3]
      · refine ⟨t.drop 1, false, by rw [if_neg h3], by simpa using h3, by simp, ?_⟩
        unfold parseV; rw [if_pos h2, if_neg h3]
    rw [hr1, hr2, mk_tx]
    have hA := HA0.out
    rw [hP] at hA
    have HA := Lib.hid hA
    clear hA HA0 hP hr1 hr2 h2 hT hu
    go_wp2_with fail
    go_loopg [7, 10, 11, 12, 13] (r.length + 1) (fun q v7 v10 _ _ _ wr => ∃ (rest : List UInt8) (f : Bool) (p : Nat → Bool) (m : More), q = rest.length + 1 ∧ rest.length ≤ r.length ∧ v7 = .string (tx rest) ∧ v10 = .bool f ∧ loopF true (fun _ => false) r = loopF f p rest ∧ wr = more (w.alloc (.cells (SA p) 39)) m)
    case atStart => exact ⟨r, true, fun _ => false, _, rfl, by omega, rfl, rfl, rfl, more_self _⟩
    case round =>
      obtain ⟨rest, f, p, m, hq, hrl2, rfl, rfl, hF, rfl⟩ := hrel
      have HQ := Lib.hid hq
      have HF := Lib.hid hF
      clear hq hF
      have hS : Sane (more (w.alloc (.cells (SA p) 39)) m) := hs.grows (by repeat' first | exact Grows.refl _ | refine Grows.more ?_ _ | refine Grows.alloc ?_ _ | refine Grows.drew ?_)
      have HS := Lib.hid hS
      clear hS
      by_cases hstop : f = false ∧ rest.head? = some 93
      · obtain ⟨rfl, hh⟩ := hstop
        go_wp2_with fail
        (with_reducible refine (Tryd.strings_HasPrefix _ _ _).mono ?_)
        rw [tx_data, lit_data, hasPrefix_one, show decide (rest.head? = some 93) = true from by simpa using hh]
        rintro e w1 ⟨rfl, rfl⟩
        have hF2 := HF.out
        rw [loopF_end p rest hh] at hF2
        have hA := HA.out
        rw [hF2] at hA
        simp only [Option.map_some] at hA
        have HA2 := Lib.hid hA
        clear hF2 hA HA HF hh
        go_wp2_with fail
        go_loopg [57, 14] 256 (fun q v57 _ wr => ∃ j : Nat, q + j = 256 ∧ v57 = .int .i64 j ∧ wr = more (w.alloc (.cells (SA (flipTo p nt j)) 39)) m)
        case atStart => exact ⟨0, by omega, rfl, by rw [flip_zero]⟩
        case round =>
          obtain ⟨j, hq2, rfl, rfl⟩ := hrel
          have HQ2 := Lib.hid hq2
          clear hq2
          by_cases h3 : j < 256
          · have j0 : (0 : Int) ≤ (j : Int) := by omega
            have j1 : (j : Int) < 256 := by omega
            have hfj := flip_at p nt j
            obtain ⟨d, hd⟩ : ∃ d, p j = d := ⟨_, rfl⟩
            rw [hd] at hfj
            cases d <;> cases nt
            · have hfs := flip_put p false j false (by rw [hd]; rfl)
              clear hd
              go_wp2_with fail
              go_roundg (gk - 1)
              case measure => have := HQ2.out; omega
              case rel => exact ⟨j + 1, by have := HQ2.out; omega, by go_num, rfl⟩
            · have hfs := flip_put p true j true (by rw [hd]; rfl)
              clear hd
              go_wp2_with fail
              go_roundg (gk - 1)
              case measure => have := HQ2.out; omega
              case rel => exact ⟨j + 1, by have := HQ2.out; omega, by go_num, rfl⟩
            · have hfs := flip_put p false j true (by rw [hd]; rfl)
              clear hd
              go_wp2_with fail
              go_roundg (gk - 1)
              case measure => have := HQ2.out; omega
              case rel => exact ⟨j + 1, by have := HQ2.out; omega, by go_num, rfl⟩
            · have hfs := flip_put p true j false (by rw [hd]; rfl)
              clear hd
              go_wp2_with fail
              go_roundg (gk - 1)
              case measure => have := HQ2.out; omega
              case rel => exact ⟨j + 1, by have := HQ2.out; omega, by go_num, rfl⟩
          · have hfe := flip_end p nt j (by omega)
            have hrl3 : (rest.length : Int) ≤ s.length := by omega
            have hsub : ((t.length - rest.length + 1 : Nat) : Int) + k = s.length - rest.length + 1 := by omega
            have HSUB := Lib.hid hsub
            clear hsub
            go_wp2_with fail
            exact bodyPost_ret (v := .tuple #[.agg (SA fun c => p c != nt), .int .i64 ((s.length : Int) - rest.length + 1), .int .i64 0]) (by simp [results, Tryd.results28, go_sem]) rfl ⟨by rw [HA2.out, ← HSUB.out, Int.add_comm], (by repeat' first | exact Grows.refl _ | refine Grows.more ?_ _ | refine Grows.alloc ?_ _ | refine Grows.drew ?_)⟩
      · have HL1 : Hid (partV rest = none → loopF true (fun _ => false) r = none) := Lib.hid fun h => by rw [HF.out]; exact loopF_none hstop h
        have HL2 : Hid (∀ x, partV rest = some x → loopF true (fun _ => false) r = loopF false (fun c => p c || x.1 c) x.2) := Lib.hid fun x h => by rw [HF.out]; exact loopF_next hstop h
        clear HF
        cases f
        case' false =>
          have hh : ¬rest.head? = some 93 := fun h => hstop ⟨rfl, h⟩
          go_wp2_with fail
          (with_reducible refine (Tryd.strings_HasPrefix _ _ _).mono ?_)
          rw [tx_data, lit_data, hasPrefix_one, show decide (rest.head? = some 93) = false from by simpa using hh]
          rintro e w1 ⟨rfl, rfl⟩
        all_goals
          go_wp2_with fail
          (with_reducible refine (part_any rest _ (by omega) HS.out).mono ?_)
          rintro e w1 ⟨v, r', b, rfl, hb, hv, m1, rfl⟩
          cases hpv : partV rest with
          | none =>
            rw [hpv] at hb
            have hA := HA.out
            rw [HL1.out hpv] at hA
            simp only [Option.isSome_none] at hb
            simp only [Option.map_none] at hA
            subst hb
            have HA2 := Lib.hid hA
            clear hv hA HA HL1 HL2
            go_wp2_with fail
            exact bodyPost_ret (v := .tuple #[.agg (SA fun _ => false), .int .i64 0, .int .i64 90]) (by simp [results, Tryd.results28, go_sem]) rfl ⟨by rw [HA2.out], (by repeat' first | exact Grows.refl _ | refine Grows.more ?_ _ | refine Grows.alloc ?_ _ | refine Grows.drew ?_)⟩
          | some x =>
            rw [hpv] at hb
            obtain ⟨rfl, ht⟩ := hv x hpv
            have hF2 := HL2.out x hpv
            have HF2 := Lib.hid hF2
            have hxl := partV_len hpv
            simp only [Option.isSome_some] at hb
            subst hb
            clear hv hF2 HL1 HL2 hpv
            have hblk : blk (more (more (w.alloc (.cells (SA p) 39)) m) m1) w.heap.size = SA p := by simp [go_sem]
            go_wp2_with fail
            (with_reducible refine (add_any w.heap.size _ p v x.1 _ hblk (by simp; omega) ht).mono ?_)
            rintro e w2 ⟨rfl, m2, rfl⟩
            simp only [more_more, setBlk_more (w.alloc (.cells (SA p) 39)) _ (SA fun c => p c || x.1 c) w.heap.size (by simp [go_sem]), setBlk_alloc_at w (SA p) (SA fun c => p c || x.1 c) 39 w.heap.size rfl]
            go_wp2_with fail
            go_roundg (x.2.length + 1)
            case measure => have := HQ.out; omega
            case rel => exact ⟨x.2, false, fun c => p c || x.1 c, _, rfl, by omega, rfl, rfl, HF2.out, rfl⟩
  · rw [if_neg h2, show decide (t.head? = some 91) = false from by simpa using h2, mk_tx]
    have hA := HA0.out
    rw [show parseV t = none by unfold parseV; rw [if_neg h2]] at hA
    simp only [] at hA
    have HA := Lib.hid hA
    clear hA HA0 h2
    go_wp2_with fail
    exact bodyPost_ret (v := .tuple #[.agg (SA fun _ => false), .int .i64 0, .int .i64 90]) (by simp [results, Tryd.results28, go_sem]) rfl ⟨by rw [HA.out], (Grows.refl _).alloc _⟩
end Go.Proofs.YtmobcljinfoacaaDoor
