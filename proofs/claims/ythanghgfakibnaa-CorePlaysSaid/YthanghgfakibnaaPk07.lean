/-
  Several texts of the proof: ConcatP, PiecesAsk.
-/
import Derived.Test.YthanghgfakibnaaPk06
/-
  slices.Grow of nil and slices.Concat, at lists of pieces.
-/
namespace Go.Proofs.Ythanghgfakibnaa
open Go.RowKit

/-- New memory that holds pieces. -/
def NewParts (ps : List Part) (w : World) (e : Ending) (w' : World) : Prop := ∃ v, e = .returned v ∧ w'.ownsRow w.heap.size 114 1 v ps.length (pv ps) ∧ Grows w w'
/-- A row of pieces, among several ones. -/
structure PRow where
  A : Option Addr
  cap : Nat
  ps : List Part
def PRow.val (p : PRow) : Value := .slice p.A p.ps.length p.cap
def PRow.ok (w : World) (p : PRow) : Prop := Rd w 1 p.A p.ps.length (pv p.ps) ∧ (p.A = none → p.ps.length = 0 ∧ p.cap = 0)
set_option maxRecDepth 3000 in
theorem PRow.grows {w w' : World} {p : PRow} (h : p.ok w) (hg : Grows w w') : p.ok w' := ⟨h.1.grows hg, h.2⟩
def rowsL : List PRow → List Part
  | [] => []
  | p :: ps => p.ps ++ rowsL ps
set_option maxRecDepth 3000 in
theorem rowsL_append (a b : List PRow) : rowsL (a ++ b) = rowsL a ++ rowsL b := by
  induction a with
  | nil => rfl
  | cons p a ih => simp [rowsL, ih]
set_option maxRecDepth 3000 in
theorem rowsL_take (ps : List PRow) (k : Nat) (h : k < ps.length) : rowsL (ps.take (k + 1)) = rowsL (ps.take k) ++ ps[k].ps := by
  rw [List.take_add_one, List.getElem?_eq_getElem h, rowsL_append]
  simp [rowsL]
set_option maxRecDepth 3000 in
theorem rowsL_le (ps : List PRow) (k : Nat) : (rowsL (ps.take k)).length ≤ (rowsL ps).length := by
  conv => rhs; rw [← List.take_append_drop k ps, rowsL_append]
  simp
set_option maxRecDepth 3000 in
theorem own_nextP {W w1 w2 : World} {v : Value} {n : Nat} {xs : List Value} (hb : Below W.heap.size W w1) (hown : w1.ownsRow W.heap.size 114 1 v n xs) (hgrow : w1.grownBy w2 v.ownBlock) : Below W.heap.size W w2 :=
  hb.grown hgrow hb.size (fun k e => (hown.lt k e).1)

set_option maxRecDepth 3000 in
set_option maxHeartbeats 2000000 in
theorem growP_nil (n : Nat) (w : World) (hn : n ≤ 5000000000000) :
    Calls Try.prog 88 #[.slice none 0 0, .int .i64 n] w (NewParts [] w) := by
  obtain ⟨i0, hi, hz0, hz1, hz2⟩ := info_parts infoPiece
  rcases Nat.eq_zero_or_pos n with h0 | h0
  · subst h0
    go_enter Try.func88, Try.ntmps88
    go_wp2
    go_ret
    exact ⟨_, rfl, World.ownsRow_nil _ _ _ _, Grows.refl _⟩
  · have hrz : ∀ ty, (Builtin.append_ #[110, 3] ty #[.slice none 0 0, .int .i64 n]).run Try.prog w =
        .ok (.slice (some ⟨w.heap.size, 0, none⟩) n (grownCap w n 0 114)) (w.drew.alloc (.cells (#[] ++ Builtin.zeroCells (Value.slice none 0 0).cells n ++ Builtin.zeroCells (Value.slice none 0 0).cells (grownCap w n 0 114 - n)) 114)) := fun ty => by
      have hold : (Builtin.firstCells i0.size 0 (.slice none 0 0)).run Try.prog w.drew = .ok (#[] : Array Value) w.drew := run_firstCells_none w.drew i0.size 0 0 0
      have h := Lib.run_append_grow_zeros w 110 3 ty 114 i0 (.slice none 0 0) .i64 .i64 Try.underlying110 Try.underlying3 hi hz0 none 0 0 [] hold n (by omega) (by omega) (by omega) (by omega) (by rw [hz2]; omega) (growslice_fits (by omega) (by rw [hz2]; omega))
      simpa using h
    have hGn : n ≤ grownCap w n 0 114 := grownCap_ge w _ _ _
    have hG63 : grownCap w n 0 114 ≤ 9223372036854775807 := by
      have := grownCap_le_maxLen w n 0 114 (by unfold maxLen; omega)
      unfold maxLen at this
      omega
    generalize grownCap w n 0 114 = G at hrz hGn hG63
    go_enter Try.func88, Try.ntmps88
    go_wp2_with (at_builtin; refine Lib.wpList_append_run _ rfl _ _ _ _ rfl _ _ rfl rfl _ _ (hrz _) ?_)
    go_ret
    have hsz : (Builtin.zeroCells #[Value.slice none 0 0] n ++ Builtin.zeroCells #[Value.slice none 0 0] (G - n)).size = G * 1 := by
      rw [Array.size_append, size_zeroCells, size_zeroCells]; simp; omega
    refine ⟨_, rfl, ?_, ((Grows.refl _).alloc _).drew⟩
    exact (World.ownsRow_made w _ G (Nat.le_refl _) hG63 hsz).drew

set_option maxRecDepth 3000 in
set_option maxHeartbeats 2000000 in
theorem concatP_any (g : Nat) (ps : List PRow) (m cap : Nat) (w : World) (hm : m = ps.length) (hg : Rd w 1 (some ⟨g, 0, none⟩) ps.length (ps.map PRow.val)) (hps : ∀ p ∈ ps, p.ok w) (hl : (rowsL ps).length ≤ 5000000000000) (hpl : ps.length ≤ 1000) :
    Calls Try.prog 69 #[.slice (some ⟨g, 0, none⟩) m cap] w (NewParts (rowsL ps) w) := by
  obtain ⟨i0, hi, hz0, hz1, hz2⟩ := info_parts infoPiece
  subst hm
  have HP := Lib.hid hps
  clear hps
  go_enter Try.func69, Try.ntmps69
  go_wp2_with fail
  go_loopg [3, 5, 11] ps.length (fun q v _ i wr => ∃ k : Nat, q + k = ps.length ∧ i = .int .i64 k ∧ v = .int .i64 ((rowsL (ps.take k)).length : Nat) ∧ wr = w)
  case atStart => exact ⟨0, by omega, rfl, rfl, rfl⟩
  case round =>
    obtain ⟨k, hq, rfl, rfl, hw⟩ := hrel
    obtain rfl : w = wr := hw.symm
    have HQ := Lib.hid hq
    have hkl : k ≤ ps.length := by omega
    have hsum := rowsL_le ps k
    clear hq
    by_cases h1 : k < ps.length
    · have hc : w.cell? ⟨g, k, none⟩ = some (.slice ps[k].A ps[k].ps.length ps[k].cap) := by
        obtain ⟨b, o, e, _, hcc⟩ := hg.2 (by omega)
        injection e with e
        injection e with e1 e2
        subst e1 e2
        have := hcc k (ps[k].val) (by simp [h1])
        simpa [PRow.val] using this
      have hst := rowsL_take ps k h1
      have hs2 := rowsL_le ps (k + 1)
      rw [hst, List.length_append] at hs2
      have HT := Lib.hid hst
      clear hst
      go_wp2_with fail
      go_roundg (gk - 1)
      case measure => have := HQ.out; omega
      case rel => exact ⟨k + 1, by have := HQ.out; omega, by go_num, by rw [HT.out, List.length_append]; go_num, rfl⟩
    · have hk : ps.take k = ps := List.take_of_length_le (by omega)
      rw [hk]
      clear hk
      go_wp2_with fail
      (with_reducible refine (growP_nil (rowsL ps).length _ (by omega)).mono ?_)
      rintro e w1 ⟨v, rfl, hown, m1, rfl⟩
      go_wp2_with fail
      go_loopg [6, 8, 27] ps.length (fun q v _ i wx => ∃ k : Nat, q + k = ps.length ∧ i = .int .i64 k ∧ wx.ownsRow w.heap.size 114 1 v (rowsL (ps.take k)).length (pv (rowsL (ps.take k))) ∧ Below w.heap.size w wx)
      case atStart => exact ⟨0, by omega, rfl, hown, (Grows.of w m1).below⟩
      case round =>
        obtain ⟨k, hq, rfl, hrow, hB⟩ := hrel
        have HQ := Lib.hid hq
        have hkl : k ≤ ps.length := by omega
        have hbs := hB.size
        clear hq
        by_cases h2 : k < ps.length
        · have hc : w.cell? ⟨g, k, none⟩ = some (.slice ps[k].A ps[k].ps.length ps[k].cap) ∧ g < w.heap.size := by
            obtain ⟨b, o, e, hlt, hcc⟩ := hg.2 (by omega)
            injection e with e
            injection e with e1 e2
            subst e1 e2
            have := hcc k (ps[k].val) (by simp [h2])
            exact ⟨by simpa [PRow.val] using this, hlt⟩
          have hc2 := (hB.cell (p := ⟨g, k, none⟩) hc.2).trans hc.1
          obtain ⟨hp1, hp2⟩ := PRow.grows (HP.out ps[k] (List.getElem_mem h2)) (Grows.of_below hB)
          have hst := rowsL_take ps k h2
          have hs2 := rowsL_le ps (k + 1)
          rw [hst, List.length_append] at hs2
          have HT := Lib.hid hst
          have HN := Lib.hid hp2
          clear hst hc hp2
          go_wp2_with (at_builtin; refine wpList_append_rd _ rfl (.tmp 31) (.tmp 32) 110 rfl w.heap.size 114 i0 (.slice none 0 0) 24 Try.underlying110 hi hz0 hz1 hz2 rfl _ _ _ rfl hrow ps[k].A _ ps[k].cap (pv ps[k].ps) rfl HN.out hp1 (pv_one _) (by unfold maxLen; omega) (by omega) hbs ?_; intro v1 w1 hown1 hgrow1; have hb1 := own_nextP hB hrow hgrow1; clear hgrow1)
          go_roundg (gk - 1)
          case measure => have := HQ.out; omega
          case rel => exact ⟨k + 1, by have := HQ.out; omega, by go_num, by rw [HT.out, List.length_append, ← pv_append]; exact hown1, hb1⟩
        · have hk : ps.take k = ps := List.take_of_length_le (by omega)
          rw [hk] at hrow
          clear hk
          go_wp2_with fail
          go_ret
          exact ⟨_, rfl, hrow, Grows.of_below hB⟩
end Go.Proofs.Ythanghgfakibnaa

/-
  Pieces: the walks of parts, Len, Lines, Line, Pieces.
-/
namespace Go.Proofs.Ythanghgfakibnaa
open Go.RowKit

set_option maxRecDepth 3000 in
theorem partsV_take (ps : List Part) (f t : Nat) : ∀ (n k : Nat) (h : k < ps.length), partsV (ps.take (k + 1)) n f t = partsV (ps.take k) n f t ++ (if f - (n + (partsL (ps.take k)).length) < min (t - (n + (partsL (ps.take k)).length)) ps[k].d.length then [ps[k].cutAt (f - (n + (partsL (ps.take k)).length)) (min (t - (n + (partsL (ps.take k)).length)) ps[k].d.length)] else []) := by
  induction ps with
  | nil => intro n k h; simp at h
  | cons p ps ih =>
    intro n k h
    cases k with
    | zero => simp only [List.take_succ_cons, List.take_zero, partsV, partsL, List.length_nil, Nat.add_zero, List.getElem_cons_zero, List.nil_append]
    | succ k =>
      have := ih (n + p.d.length) k (by simpa using h)
      simp only [List.take_succ_cons, partsV, partsL, List.length_append, List.getElem_cons_succ]
      rw [this, show n + p.d.length + (partsL (ps.take k)).length = n + (p.d.length + (partsL (ps.take k)).length) by omega]
      split <;> simp

set_option maxRecDepth 3000 in
set_option maxHeartbeats 2000000 in
theorem parts_any (T : Tbl) (f t : Nat) (w : World) (hT : T.ok w) (hf : f ≤ 1000000) (ht : t ≤ 1000000) :
    Calls Try.prog 65 #[T.val, .int .i64 f, .int .i64 t] w (NewParts (partsV T.ps 0 f t) w) := by
  obtain ⟨i0, hi, hz0, hz1, hz2⟩ := info_parts infoPiece
  obtain ⟨g, P, cap, ps⟩ := T
  obtain ⟨hblk, hA, hps, hl⟩ := hT
  simp only [] at hblk hA hps hl
  have hcnt := full_count fun p hp => (hps p hp).2
  have HP := Lib.hid hps
  clear hps
  have e0 := Blk.cell hblk (by simp) 0
  have hix := Blk.inHeap hblk (by simp)
  simp only [List.size_toArray, List.length_cons, List.length_nil, Nat.zero_add, Nat.reduceAdd, Nat.reduceLT, getElem?_pos, List.getElem_toArray, List.getElem_cons_succ, List.getElem_cons_zero] at e0
  clear hblk
  go_enter Try.func65, Try.ntmps65
  simp only [Tbl.val]
  go_wp2_with fail
  go_loopg [7, 8, 10, 11, 12, 18] ps.length (fun q v n _ _ _ i wr => ∃ k : Nat, q + k = ps.length ∧ i = .int .i64 k ∧ n = .int .i64 (partsL (ps.take k)).length ∧ wr.ownsRow w.heap.size 114 1 v (partsV (ps.take k) 0 f t).length (pv (partsV (ps.take k) 0 f t)) ∧ Below w.heap.size w wr)
  case atStart => exact ⟨0, by omega, rfl, rfl, World.ownsRow_nil _ _ _ _, Below.refl _ _⟩
  case round =>
    obtain ⟨k, hq, rfl, rfl, hrow, hB⟩ := hrel
    have HQ := Lib.hid hq
    have hkl : k ≤ ps.length := by omega
    clear hq
    have hsum := partsL_le ps k
    have hfl := partsV_le (ps.take k) 0 f t
    rw [List.length_take, Nat.min_eq_left hkl] at hfl
    have hbs := hB.size
    by_cases h1 : k < ps.length
    · obtain ⟨b, o, rfl, hb, ec⟩ := (hA.grows (Grows.of_below hB)).part k h1
      have hgd := (HP.out ps[k] (List.getElem_mem h1)).1.grows (Grows.of_below hB)
      have hT := Lib.hid (partsL_take ps k h1)
      have hF := Lib.hid (partsV_take ps f t 0 k h1)
      have hs2 := partsL_le ps (k + 1)
      rw [partsL_take ps k h1, List.length_append] at hs2
      generalize hN : (partsL (ps.take k)).length = N at *
      have hsub1 : max ((f : Int) - (N : Int)) 0 = ((f - N : Nat) : Int) := by omega
      by_cases h2 : f - N < min (t - N) ps[k].d.length
      · have hsub2 : min ((t : Int) - (N : Int)) (ps[k].d.length : Int) = ((min (t - N) ps[k].d.length : Nat) : Int) := by omega
        have hlt : ((f - N : Nat) : Int) < ((min (t - N) ps[k].d.length : Nat) : Int) := by omega
        go_wp2_with fail
        (with_reducible refine (cut_any ps[k] _ _ _ hgd h2 (Nat.min_le_right _ _)).mono ?_)
        rintro e w' ⟨rfl, rfl⟩
        have hF2 : Hid (partsV (ps.take (k + 1)) 0 f t = partsV (ps.take k) 0 f t ++ [ps[k].cutAt (f - N) (min (t - N) ps[k].d.length)]) := Lib.hid (by have := hF.out; simp only [Nat.zero_add] at this; rw [if_pos h2] at this; exact this)
        generalize ps[k].cutAt (f - N) (min (t - N) ps[k].d.length) = q at hF2 ⊢
        simp only [Part.val]
        clear hgd
        go_wp2_with (at_builtin; refine wpList_append_own _ rfl (.tmp 35) (.tmp 40) 110 rfl w.heap.size 114 i0 (.slice none 0 0) 1 24 Try.underlying110 hi hz0 hz1 hz2 rfl (by decide) _ _ _ rfl (hrow.alloc _) ⟨wr.heap.size, 0, none⟩ 1 1 [.slice q.A q.d.length q.cap] rfl rfl (cell_one_new _ _ _) (by simp [Value.oneCell']) (by unfold maxLen; omega) (by omega) (by simp; omega) ?_; intro v' w1 hown' hgrow _; have hb1 := own_below1 hB hrow hbs hgrow; clear hgrow)
        go_roundg (gk - 1)
        case measure => have := HQ.out; omega
        case rel => exact ⟨k + 1, by have := HQ.out; omega, by go_num, by rw [hT.out, List.length_append]; go_num, by rw [hF2.out, List.length_append, ← pv_append]; exact hown', hb1⟩
      · have hsub2 : ¬ max ((f : Int) - (N : Int)) 0 < min ((t : Int) - (N : Int)) (ps[k].d.length : Int) := by omega
        have hF2 : Hid (partsV (ps.take (k + 1)) 0 f t = partsV (ps.take k) 0 f t) := Lib.hid (by have := hF.out; simp only [Nat.zero_add] at this; rw [if_neg h2, List.append_nil] at this; exact this)
        go_wp2_with fail
        go_roundg (gk - 1)
        case measure => have := HQ.out; omega
        case rel => exact ⟨k + 1, by have := HQ.out; omega, by go_num, by rw [hT.out, List.length_append]; go_num, by rw [hF2.out]; exact hrow, hB⟩
    · have hk : ps.take k = ps := List.take_of_length_le (by omega)
      rw [hk] at hrow
      clear hk
      go_wp2_with fail
      go_ret
      exact ⟨_, rfl, hrow, Grows.of_below hB⟩
end Go.Proofs.Ythanghgfakibnaa
