/-
  Matches: whether atoms fit all of a text (fit), walked.
-/
import Derived.Test.YtnjagecmhdagkaaDoorPk44
set_option linter.unusedSimpArgs false
set_option linter.unusedVariables false
namespace Go.Proofs.YtnjagecmhdagkaaDoor
open Go.RowKit

/-- An array of bools. -/
def BA (n : Nat) (p : Nat → Bool) : Array Value := Array.ofFn fun i : Fin n => Value.bool (p i)
set_option maxRecDepth 3000 in
theorem BA_size (n : Nat) (p : Nat → Bool) : (BA n p).size = n := by simp [BA]
set_option maxRecDepth 3000 in
theorem BA_get {n : Nat} {p : Nat → Bool} {k : Nat} (h : k < n) : (BA n p)[k]? = some (.bool (p k)) := by simp [BA, Array.getElem?_ofFn, h]
set_option maxRecDepth 3000 in
theorem BA_ext {n : Nat} {p q : Nat → Bool} (h : ∀ k, k < n → p k = q k) : BA n p = BA n q := by
  apply Array.ext_getElem?
  intro k
  by_cases hk : k < n
  · rw [BA_get hk, BA_get hk, h k hk]
  · rw [Array.getElem?_eq_none (by rw [BA_size]; omega), Array.getElem?_eq_none (by rw [BA_size]; omega)]
set_option maxRecDepth 3000 in
theorem BA_set {n : Nat} {p : Nat → Bool} (k : Nat) (v : Bool) : (BA n p).setIfInBounds k (.bool v) = BA n fun j => if j = k then v else p j := by
  apply Array.ext_getElem?
  intro j
  rw [Array.getElem?_setIfInBounds, BA_size]
  by_cases hj : j < n
  · rw [BA_get (p := fun j => if j = k then v else p j) hj, BA_get hj]
    by_cases e : k = j
    · subst e; simp [hj]
    · rw [if_neg e, if_neg fun h => e h.symm]
  · rw [Array.getElem?_eq_none (xs := BA n fun j => if j = k then v else p j) (by rw [BA_size]; omega), Array.getElem?_eq_none (xs := BA n p) (by rw [BA_size]; omega)]
    by_cases e : k = j
    · subst e; simp [hj]
    · rw [if_neg e]
set_option maxRecDepth 3000 in
theorem infoB : (Tryd.prog.info? 4).map (fun i => (i.zero, i.size, i.bytes)) = some (some (.bool false), 1, 1) := by kernel_rfl
set_option maxRecDepth 3000 in
theorem made_bools (n : Nat) : madeCells #[Value.bool false] n = BA n (fun _ => false) := by
  apply Array.ext_getElem?
  intro j
  by_cases hj : j < n
  · rw [BA_get hj]
    simp [madeCells, Array.getElem?_ofFn, hj, Nat.mod_one]
  · rw [Array.getElem?_eq_none (xs := BA n _) (by rw [BA_size]; omega)]
    simp [madeCells, Array.getElem?_ofFn, hj]
set_option maxRecDepth 3000 in
theorem make_bools (n : Nat) (h : n ≤ 1000000) (w : World) : (Instr.makeSlice 70 (.int .i64 ((n : Int) + 1)) (.int .i64 ((n : Int) + 1))).run Tryd.prog w = .ok (.slice (some ⟨w.heap.size, 0, none⟩) (n + 1) (n + 1)) (w.alloc (.cells (BA (n + 1) fun _ => false) 4)) := by
  have hq := infoB
  cases hi : Tryd.prog.info? 4 with
  | none => rw [hi] at hq; cases hq
  | some i0 =>
  rw [hi] at hq
  simp only [Option.map_some, Option.some.injEq, Prod.mk.injEq] at hq
  obtain ⟨hz0, hz1, hz2⟩ := hq
  have := run_make (P := Tryd.prog) w 70 4 i0 _ Tryd.underlying70 hi hz0 .i64 .i64 ((n : Int) + 1) ((n : Int) + 1) (by omega) (by omega) (by rw [hz2]; omega) (by omega)
  rw [hz1] at this
  rw [this]
  have e : ((n : Int) + 1).toNat = n + 1 := by omega
  rw [e, Nat.mul_one]
  rw [show (Value.bool false).cells = #[Value.bool false] from rfl, made_bools]
/-- What came of the byte ahead. -/
def preV (x : Atm) (s : List UInt8) (now : Nat → Bool) : Nat → Bool
  | 0 => false
  | i + 1 => fitBb x s i && (now i || (x.star && nxtV x s now i))
set_option maxRecDepth 3000 in
theorem nxt_pre (x : Atm) (s : List UInt8) (now : Nat → Bool) (i : Nat) : nxtV x s now i = ((x.star && now i) || preV x s now i) := by
  cases i with
  | zero => simp [nxtV, preV]
  | succ i => rfl
/-- The places by now, ahead of the round of i, and in its midst. -/
def cellsF (x : Atm) (s : List UInt8) (now : Nat → Bool) (i : Nat) : Nat → Bool := fun j => if j < i then nxtV x s now j else if j = i then preV x s now i else false
def midF (x : Atm) (s : List UInt8) (now : Nat → Bool) (i : Nat) : Nat → Bool := fun j => if j ≤ i then nxtV x s now j else false
set_option maxRecDepth 3000 in
theorem cells_zero (x : Atm) (s : List UInt8) (now : Nat → Bool) (n : Nat) : BA n (cellsF x s now 0) = BA n fun _ => false := BA_ext fun k _ => by
  unfold cellsF
  rw [if_neg (by omega)]
  split <;> rfl
set_option maxRecDepth 3000 in
theorem cells_mid (x : Atm) (s : List UInt8) (now : Nat → Bool) (n i : Nat) (v : Bool) (h : v = nxtV x s now i) : (BA n fun j => if j = i then v else cellsF x s now i j) = BA n (midF x s now i) := BA_ext fun k _ => by
  unfold cellsF midF
  by_cases h1 : k = i
  · subst h1; rw [if_pos rfl, if_pos (Nat.le_refl _), h]
  · rw [if_neg h1]
    by_cases h2 : k < i
    · rw [if_pos h2, if_pos (by omega)]
    · rw [if_neg h2, if_neg h1, if_neg (by omega)]
set_option maxRecDepth 3000 in
theorem cells_mid2 (x : Atm) (s : List UInt8) (now : Nat → Bool) (n i : Nat) (h : x.star = false) : BA n (cellsF x s now i) = BA n (midF x s now i) := BA_ext fun k _ => by
  unfold cellsF midF
  by_cases h1 : k = i
  · subst h1; rw [if_neg (by omega), if_pos rfl, if_pos (Nat.le_refl _), nxt_pre, h]; rfl
  · by_cases h2 : k < i
    · rw [if_pos h2, if_pos (by omega)]
    · rw [if_neg h2, if_neg h1, if_neg (by omega)]
set_option maxRecDepth 3000 in
theorem mid_next (x : Atm) (s : List UInt8) (now : Nat → Bool) (n i : Nat) (h : preV x s now (i + 1) = true) : (BA n fun j => if j = i + 1 then true else midF x s now i j) = BA n (cellsF x s now (i + 1)) := BA_ext fun k _ => by
  unfold cellsF midF
  by_cases h1 : k = i + 1
  · subst h1; rw [if_pos rfl, if_neg (by omega), if_pos rfl, h]
  · rw [if_neg h1]
    by_cases h2 : k ≤ i
    · rw [if_pos h2, if_pos (by omega)]
    · rw [if_neg h2, if_neg (by omega), if_neg h1]
set_option maxRecDepth 3000 in
theorem mid_next2 (x : Atm) (s : List UInt8) (now : Nat → Bool) (n i : Nat) (h : preV x s now (i + 1) = false) : BA n (midF x s now i) = BA n (cellsF x s now (i + 1)) := BA_ext fun k _ => by
  unfold cellsF midF
  by_cases h1 : k = i + 1
  · subst h1; rw [if_neg (by omega), if_neg (by omega), if_pos rfl, h]
  · by_cases h2 : k ≤ i
    · rw [if_pos h2, if_pos (by omega)]
    · rw [if_neg h2, if_neg (by omega), if_neg h1]
set_option maxRecDepth 3000 in
theorem cells_end (x : Atm) (s : List UInt8) (now : Nat → Bool) (n : Nat) : BA n (cellsF x s now n) = BA n (nxtV x s now) := BA_ext fun k hk => by
  unfold cellsF
  rw [if_pos hk]
set_option maxRecDepth 3000 in
theorem now_step (s : List UInt8) (l : List Atm) (x : Atm) (now : Nat → Bool) : nowF s (l ++ [x]) now = nxtV x s (nowF s l now) := by
  unfold nowF
  rw [List.foldl_append]
  rfl
set_option maxRecDepth 3000 in
theorem put_bool {w : World} {g n : Nat} {p : Nat → Bool} (h : blk w g = BA n p) (hn : 0 < n) (k : Nat) (v : Bool) : blk (w.setCell ⟨g, k, none⟩ (.bool v)) g = BA n (fun j => if j = k then v else p j) := by
  rw [← BA_set]
  exact pa_put h (by rw [BA_size]; exact hn) k (.bool v)
attribute [local go_sem] tx_bt
set_option maxRecDepth 100000 in
set_option maxHeartbeats 8000000 in
theorem fit_any (A : Option Addr) (cap : Nat) (l : List Atom3) (s : List UInt8) (w : World) (hn : CameAtoms w A cap l) (hlen : l.length ≤ 1000) (hs : s.length ≤ 1000) :
    Calls Tryd.prog 15 #[.slice A l.length cap, .string (tx s)] w fun e w' => e = .returned (.bool (fitV (rowV3 l) s)) ∧ Grows w w' := by
  have HN := Lib.hid hn
  obtain ⟨R, hR⟩ : ∃ R, fitV (rowV3 l) s = R := ⟨_, rfl⟩
  rw [hR]
  have HR := Lib.hid hR
  clear hn hR
  have hmk0 := make_bools s.length (by omega)
  have hb1 : blk (w.alloc (.cells (BA (s.length + 1) fun _ => false) 4)) w.heap.size = BA (s.length + 1) fun _ => false := blk_alloc_at _ _ _ _ rfl
  have i1 : InHeap w.heap.size (w.alloc (.cells (BA (s.length + 1) fun _ => false) 4)) := Blk.inHeap hb1 (by rw [BA_size]; omega)
  have hf1 : ∀ k, (w.alloc (.cells (BA (s.length + 1) fun _ => false) 4)).frozen? ⟨w.heap.size, k, none⟩ = false := fun k => Blk.free hb1 (by rw [BA_size]; omega) k
  have h0c : ∃ v, (w.alloc (.cells (BA (s.length + 1) fun _ => false) 4)).cell? ⟨w.heap.size, 0, none⟩ = some v := ⟨_, (Blk.cell hb1 (by rw [BA_size]; omega) 0).trans (BA_get (by omega))⟩
  obtain ⟨v0, h0c⟩ := h0c
  have hmk := hmk0 w
  have HMK := Lib.hid hmk0
  clear hb1 hmk0
  go_enter Tryd.func15, Tryd.ntmps15
  go_wp2_with fail
  clear hmk h0c hf1 i1
  go_loopg [5, 6, 7, 8] l.length (fun q v5 v6 _ _ wr => ∃ (k b : Nat), k ≤ l.length ∧ q + k = l.length ∧ v5 = .slice (some ⟨b, 0, none⟩) (s.length + 1) (s.length + 1) ∧ v6 = .int .i64 k ∧ blk wr b = BA (s.length + 1) (nowF s (rowV3 (l.take k)) now0) ∧ Grows w wr)
  case atStart => exact ⟨0, w.heap.size, by omega, by omega, rfl, rfl, (blk_alloc_at _ _ _ _ rfl).trans ((BA_set 0 true).trans (BA_ext (q := nowF s (rowV3 (l.take 0)) now0) fun k _ => by simp [nowF, now0, rowV3])), (Grows.refl _).alloc _⟩
  case round =>
    obtain ⟨k, b, hk, hq, rfl, rfl, hb, hg⟩ := hrel
    obtain ⟨gi, hgi⟩ : ∃ z, z = gk := ⟨_, rfl⟩
    subst hgi
    obtain ⟨wk, hwk⟩ : ∃ z, z = wr := ⟨_, rfl⟩
    subst hwk
    have HQ := Lib.hid hq
    have HG := Lib.hid hg
    have HB := Lib.hid hb
    clear hq hg hb
    by_cases hlt : k < l.length
    · have i1 : (k : Int) < (l.length : Int) := by omega
      have hst : nowF s (rowV3 (l.take (k + 1))) now0 = nxtV ⟨abc l[k].c, l[k].any, l[k].star⟩ s (nowF s (rowV3 (l.take k)) now0) := by
        rw [← now_step]
        unfold rowV3
        rw [List.take_add_one, List.getElem?_eq_getElem hlt, List.map_append]
        rfl
      have HST := Lib.hid hst
      obtain ⟨b0, o0, hA, hbb, hc0, hc1, hc2⟩ := (HN.out.grows HG.out).at_ k hlt
      have he := HN.out.each _ (List.getElem_mem hlt)
      clear hst
      generalize l[k] = x at *
      obtain ⟨c, any, star⟩ := x
      simp only [] at hc0 hc1 hc2 he HST
      subst hA
      obtain ⟨now, hnow⟩ : ∃ z, nowF s (rowV3 (l.take k)) now0 = z := ⟨_, rfl⟩
      have HB5 := HB.out
      rw [hnow] at HB5 HST
      clear hnow HB
      have HB5 := Lib.hid HB5
      have hmk := HMK.out wk
      obtain ⟨w1, hw1⟩ : ∃ z, wk.alloc (.cells (BA (s.length + 1) fun _ => false) 4) = z := ⟨_, rfl⟩
      have hg1 : Grows wk w1 := by rw [← hw1]; exact (Grows.refl _).alloc _
      have hn1 : blk w1 wk.heap.size = BA (s.length + 1) fun _ => false := by rw [← hw1]; exact blk_alloc_at _ _ _ _ rfl
      obtain ⟨bn, hbn⟩ : ∃ z, z = wk.heap.size := ⟨_, rfl⟩
      rw [← hbn, hw1] at hmk
      rw [← hbn] at hn1
      have HG1 := Lib.hid (HG.out.trans hg1)
      have HB1 := Lib.hid (blkG HB5.out (by rw [BA_size]; omega) hg1)
      have HN1 := Lib.hid hn1
      have HC1 := Lib.hid (And.intro (cellG hc0 hg1) (And.intro (cellG hc1 hg1) (cellG hc2 hg1)))
      have hbw : b < wk.heap.size := Blk.inHeap HB5.out (by rw [BA_size]; omega)
      have HNE := Lib.hid (show b ≠ bn ∧ b0 ≠ bn ∧ w.heap.size ≤ bn by have := HG.out.below.size; omega)
      have hbb1 : b0 < w1.heap.size := by have := hg1.below.size; omega
      have HBB := Lib.hid hbb1
      clear hc0 hc1 hc2 hbb hg1 hn1 hbn hw1 HG HB5 hbw hbb1
      go_wp2_with fail
      clear hmk
      go_loopg [8] (s.length + 2) (fun q v8 wr => ∃ i : Nat, i ≤ s.length + 1 ∧ q + i = s.length + 2 ∧ v8 = .int .i64 i ∧ blk wr bn = BA (s.length + 1) (cellsF ⟨abc c, any, star⟩ s now i) ∧ Chg (fun b => b = bn) w1 wr)
      case atStart => exact ⟨0, by omega, by omega, rfl, by rw [cells_zero]; exact HN1.out, Chg.refl _ _⟩
      case round =>
        obtain ⟨i, hi, hq, rfl, hbN, hC⟩ := hrel
        have HQi := Lib.hid hq
        have HCg := Lib.hid hC
        clear hq
        by_cases hil : i ≤ s.length
        · have i2 : (i : Int) ≤ (s.length : Int) := by omega
          have hzN : 0 < (BA (s.length + 1) (cellsF ⟨abc c, any, star⟩ s now i)).size := by rw [BA_size]; omega
          have hN1 := (Blk.cell hbN hzN i).trans (BA_get (by omega))
          have hb5 := (chg_blk hC (Blk.inHeap HB1.out (by rw [BA_size]; omega)) HNE.out.1).trans HB1.out
          have hb5c := (Blk.cell hb5 (by rw [BA_size]; omega) i).trans (BA_get (by omega))
          have hcs : wr.cell? ⟨b0, o0 + k * 3 + 2, none⟩ = some (.bool star) := (hC.cell (a := ⟨_, _, none⟩) HBB.out HNE.out.2.1).trans HC1.out.2.2
          have hpre : cellsF ⟨abc c, any, star⟩ s now i i = preV ⟨abc c, any, star⟩ s now i := by unfold cellsF; rw [if_neg (by omega), if_pos rfl]
          rw [hpre] at hN1
          have hfz : ∀ j, wr.frozen? ⟨bn, j, none⟩ = false := fun j => Blk.free hbN hzN j
          have iN := Blk.inHeap hbN hzN
          have HBN := Lib.hid hbN
          clear hbN hzN hpre hC hb5
          go_upto_if 35 with fail
          go_cut [] (fun wx => blk wx bn = BA (s.length + 1) (midF ⟨abc c, any, star⟩ s now i) ∧ Chg (fun b => b = bn) w1 wx)
          case first =>
            cases star with
            | false =>
              go_wp2_with fail
              go_meet
              exact ⟨HBN.out.trans (cells_mid2 _ _ _ _ _ rfl), HCg.out⟩
            | true =>
              cases hp : preV ⟨abc c, any, true⟩ s now i with
              | true =>
                rw [hp] at hN1
                have hv : true = nxtV ⟨abc c, any, true⟩ s now i := by rw [nxt_pre, hp]; simp
                have HV := Lib.hid hv
                clear hv hp
                go_wp2_with fail
                go_meet
                exact ⟨(put_bool HBN.out (by omega) i true).trans (cells_mid _ _ _ _ _ _ HV.out), HCg.out.trans (chg_cell _ _ _ _)⟩
              | false =>
                rw [hp] at hN1
                have hv : now i = nxtV ⟨abc c, any, true⟩ s now i := by rw [nxt_pre, hp]; simp
                have HV := Lib.hid hv
                clear hv hp
                go_wp2_with fail
                go_meet
                exact ⟨(put_bool HBN.out (by omega) i (now i)).trans (cells_mid _ _ _ _ _ _ HV.out), HCg.out.trans (chg_cell _ _ _ _)⟩
          case rest =>
            obtain ⟨hbN, hC⟩ := hcut
            clear hN1 hb5c hcs hfz iN HBN HCg
            have hzN : 0 < (BA (s.length + 1) (midF ⟨abc c, any, star⟩ s now i)).size := by rw [BA_size]; omega
            have hN1 := (Blk.cell hbN hzN i).trans (BA_get (by omega))
            have hb5 := (chg_blk hC (Blk.inHeap HB1.out (by rw [BA_size]; omega)) HNE.out.1).trans HB1.out
            have hb5c := (Blk.cell hb5 (by rw [BA_size]; omega) i).trans (BA_get (by omega))
            have hcc := (hC.cell (a := ⟨_, _, none⟩) HBB.out HNE.out.2.1).trans HC1.out.1
            have hca := (hC.cell (a := ⟨_, _, none⟩) HBB.out HNE.out.2.1).trans HC1.out.2.1
            have hcs := (hC.cell (a := ⟨_, _, none⟩) HBB.out HNE.out.2.1).trans HC1.out.2.2
            have hmid : midF ⟨abc c, any, star⟩ s now i i = nxtV ⟨abc c, any, star⟩ s now i := by unfold midF; rw [if_pos (Nat.le_refl _)]
            rw [hmid] at hN1
            have hfz : ∀ j, wc.frozen? ⟨bn, j, none⟩ = false := fun j => Blk.free hbN hzN j
            have iN := Blk.inHeap hbN hzN
            have HBN := Lib.hid hbN
            have HCg := Lib.hid hC
            obtain ⟨T, hT⟩ : ∃ T, preV ⟨abc c, any, star⟩ s now (i + 1) = T := ⟨_, rfl⟩
            have HT := Lib.hid hT
            have hT2 : (decide (i < s.length) && (any || decide (97 + c % 3 = bt s i)) && (now i || (star && nxtV ⟨abc c, any, star⟩ s now i))) = T := by rw [← hT]; unfold preV fitBb; rw [abc_nat]
            have hy : 97 + c % 3 < 256 := by omega
            have hcall : ∀ W, Calls Tryd.prog 26 #[.int .u8 c] W fun e w' => e = .returned (.int .u8 ((97 + c % 3 : Nat) : Int)) ∧ w' = W := fun W => (abc_any c W he).mono fun e w' h => ⟨h.1, h.2.symm⟩
            clear hbN hzN hmid hC hb5 hT
            generalize nxtV ⟨abc c, any, star⟩ s now i = xi at *
            generalize now i = ni at *
            generalize 97 + c % 3 = y at *
            obtain ⟨wd, hwd⟩ : ∃ z, z = wc := ⟨_, rfl⟩
            subst hwd
            go_upto_region 12 with fail
            go_cut [90] (fun v90 wx => v90 = .bool T ∧ Chg (fun b => b = bn) wd wx ∧ blk wx bn = blk wd bn)
            case first =>
              by_cases hil2 : i < s.length
              · have i3 : (i : Int) < (s.length : Int) := by omega
                have i4 : decide (i < s.length) = true := decide_eq_true hil2
                rw [i4, Bool.true_and] at hT2
                cases any with
                | true =>
                  rw [Bool.true_or, Bool.true_and] at hT2
                  cases ni with
                  | true =>
                    obtain rfl : true = T := hT2
                    go_quiet ((go_at_call 26; exact Calls.quiet_of_same (hcall _)))
                    go_wp2_with fail
                    go_meet
                    exact ⟨rfl, (by first | exact Chg.refl _ _ | exact Chg.of_grows (by repeat' first | exact Grows.refl _ | refine Grows.drewN ?_ _ | refine Grows.drew ?_)), rfl⟩
                  | false =>
                    rw [Bool.false_or] at hT2
                    cases star with
                    | false =>
                      obtain rfl : false = T := hT2
                      go_quiet ((go_at_call 26; exact Calls.quiet_of_same (hcall _)))
                      go_wp2_with fail
                      go_meet
                      exact ⟨rfl, (by first | exact Chg.refl _ _ | exact Chg.of_grows (by repeat' first | exact Grows.refl _ | refine Grows.drewN ?_ _ | refine Grows.drew ?_)), rfl⟩
                    | true =>
                      rw [Bool.true_and] at hT2
                      subst hT2
                      go_quiet ((go_at_call 26; exact Calls.quiet_of_same (hcall _)))
                      go_wp2_with fail
                      go_meet
                      exact ⟨rfl, (by first | exact Chg.refl _ _ | exact Chg.of_grows (by repeat' first | exact Grows.refl _ | refine Grows.drewN ?_ _ | refine Grows.drew ?_)), rfl⟩
                | false =>
                  rw [Bool.false_or] at hT2
                  by_cases hE : y = bt s i
                  · subst hE
                    rw [decide_eq_true rfl, Bool.true_and] at hT2
                    cases ni with
                    | true =>
                      obtain rfl : true = T := hT2
                      go_quiet ((go_at_call 26; exact Calls.quiet_of_same (hcall _)))
                      go_wp2_with fail
                      go_meet
                      exact ⟨rfl, (by first | exact Chg.refl _ _ | exact Chg.of_grows (by repeat' first | exact Grows.refl _ | refine Grows.drewN ?_ _ | refine Grows.drew ?_)), rfl⟩
                    | false =>
                      rw [Bool.false_or] at hT2
                      cases star with
                      | false =>
                        obtain rfl : false = T := hT2
                        go_quiet ((go_at_call 26; exact Calls.quiet_of_same (hcall _)))
                        go_wp2_with fail
                        go_meet
                        exact ⟨rfl, (by first | exact Chg.refl _ _ | exact Chg.of_grows (by repeat' first | exact Grows.refl _ | refine Grows.drewN ?_ _ | refine Grows.drew ?_)), rfl⟩
                      | true =>
                        rw [Bool.true_and] at hT2
                        subst hT2
                        go_quiet ((go_at_call 26; exact Calls.quiet_of_same (hcall _)))
                        go_wp2_with fail
                        go_meet
                        exact ⟨rfl, (by first | exact Chg.refl _ _ | exact Chg.of_grows (by repeat' first | exact Grows.refl _ | refine Grows.drewN ?_ _ | refine Grows.drew ?_)), rfl⟩
                  · have hE1 : ¬ bt s i = y := fun h => hE h.symm
                    have hE2 : decide (bt s i = y) = false := decide_eq_false hE1
                    have hE3 : ((bt s i : Int) == (y : Int)) = false := by rw [beq_eq_false_iff_ne]; omega
                    rw [decide_eq_false hE, Bool.false_and] at hT2
                    subst hT2
                    go_quiet ((go_at_call 26; exact Calls.quiet_of_same (hcall _)))
                    go_wp2_with fail
                    go_meet
                    exact ⟨rfl, (by first | exact Chg.refl _ _ | exact Chg.of_grows (by repeat' first | exact Grows.refl _ | refine Grows.drewN ?_ _ | refine Grows.drew ?_)), rfl⟩
              · have i3 : ¬ (i : Int) < (s.length : Int) := by omega
                have i4 : decide (i < s.length) = false := decide_eq_false hil2
                rw [i4] at hT2
                obtain rfl : false = T := hT2
                go_quiet ((go_at_call 26; exact Calls.quiet_of_same (hcall _)))
                go_wp2_with fail
                go_meet
                exact ⟨rfl, (by first | exact Chg.refl _ _ | exact Chg.of_grows (by repeat' first | exact Grows.refl _ | refine Grows.drewN ?_ _ | refine Grows.drew ?_)), rfl⟩
            case rest =>
              obtain ⟨rfl, hC2, hbq⟩ := hcut
              have hb2 := hbq.trans HBN.out
              have HC2 := Lib.hid (HCg.out.trans hC2)
              clear hN1 hb5c hcc hca hcs hfz iN HBN HCg hcall hT2 hC2 hbq
              have hz2 : 0 < (BA (s.length + 1) (midF ⟨abc c, any, star⟩ s now i)).size := by rw [BA_size]; omega
              have hfz : ∀ j, wc.frozen? ⟨bn, j, none⟩ = false := fun j => Blk.free hb2 hz2 j
              have iN := Blk.inHeap hb2 hz2
              have HB2 := Lib.hid hb2
              clear hb2 hz2
              cases T with
              | true =>
                have hil2 : i < s.length := by
                  have h := HT.out
                  unfold preV fitBb at h
                  simp only [Bool.and_eq_true, decide_eq_true_eq] at h
                  exact h.1.1
                have hN1 := (Blk.cell HB2.out (by rw [BA_size]; omega) (i + 1)).trans (BA_get (by omega))
                have i3 : (i : Int) + 1 < (s.length : Int) + 1 := by omega
                go_wp2_with fail
                go_roundg (gk - 1)
                case measure => have := HQi.out; omega
                case rel => exact ⟨i + 1, by omega, by have := HQi.out; omega, by go_num, (put_bool HB2.out (by omega) (i + 1) true).trans (mid_next _ _ _ _ _ HT.out), HC2.out.trans (chg_cell _ _ _ _)⟩
              | false =>
                go_wp2_with fail
                go_roundg (gk - 1)
                case measure => have := HQi.out; omega
                case rel => exact ⟨i + 1, by omega, by have := HQi.out; omega, by go_num, HB2.out.trans (mid_next2 _ _ _ _ _ HT.out), HC2.out⟩
        · have i2 : ¬ (i : Int) ≤ (s.length : Int) := by omega
          obtain rfl : i = s.length + 1 := by omega
          have hbe := hbN.trans (cells_end _ _ _ _)
          have HBE := Lib.hid hbe
          have HGE := Lib.hid (Chg.grows (n := 0) HG1.out hC fun b hb => by subst hb; exact HNE.out.2.2)
          clear hbN hbe hC
          go_wp2_with fail
          go_roundg (gi - 1)
          case measure => have := HQ.out; omega
          case rel => exact ⟨k + 1, bn, by omega, by have := HQ.out; omega, rfl, by go_num, by rw [HST.out]; exact HBE.out, HGE.out⟩
    · have i1 : ¬ (k : Int) < (l.length : Int) := by omega
      obtain rfl : k = l.length := by omega
      have hzb : 0 < (BA (s.length + 1) (nowF s (rowV3 (l.take l.length)) now0)).size := by rw [BA_size]; omega
      have hc := (Blk.cell HB.out hzb s.length).trans (BA_get (by omega))
      have ib := Blk.inHeap HB.out hzb
      have hfin : nowF s (rowV3 (l.take l.length)) now0 s.length = R := by rw [← HR.out, List.take_length]; rfl
      rw [hfin] at hc
      clear hfin hzb
      go_wp2_with fail
      go_ret
      exact ⟨rfl, HG.out⟩
end Go.Proofs.YtnjagecmhdagkaaDoor
