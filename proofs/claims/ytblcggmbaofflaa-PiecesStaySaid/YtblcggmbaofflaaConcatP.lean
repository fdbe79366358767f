/-
  slices.Grow of nil and slices.Concat, at lists of pieces.
-/
import Derived.Test.YtblcggmbaofflaaPieces
namespace Go.Proofs.Ytblcggmbaofflaa
open Go.RowKit

/-- New memory that holds pieces. -/
def NewParts (ps : List Part) (w : World) (e : Ending) (w' : World) : Prop := ∃ v, e = .returned v ∧ w'.ownsRow w.heap.size 64 1 v ps.length (pv ps) ∧ Grows w w'
/-- A row of pieces, among several ones. -/
structure PRow where
  A : Option Addr
  cap : Nat
  ps : List Part
def PRow.val (p : PRow) : Value := .slice p.A p.ps.length p.cap
def PRow.ok (w : World) (p : PRow) : Prop := Rd w 1 p.A p.ps.length (pv p.ps) ∧ (p.A = none → p.ps.length = 0 ∧ p.cap = 0)
theorem PRow.grows {w w' : World} {p : PRow} (h : p.ok w) (hg : Grows w w') : p.ok w' := ⟨h.1.grows hg, h.2⟩
def rowsL : List PRow → List Part
  | [] => []
  | p :: ps => p.ps ++ rowsL ps
theorem rowsL_append (a b : List PRow) : rowsL (a ++ b) = rowsL a ++ rowsL b := by
  induction a with
  | nil => rfl
  | cons p a ih => simp [rowsL, ih]
theorem rowsL_take (ps : List PRow) (k : Nat) (h : k < ps.length) : rowsL (ps.take (k + 1)) = rowsL (ps.take k) ++ ps[k].ps := by
  rw [List.take_add_one, List.getElem?_eq_getElem h, rowsL_append]
  simp [rowsL]
theorem rowsL_le (ps : List PRow) (k : Nat) : (rowsL (ps.take k)).length ≤ (rowsL ps).length := by
  conv => rhs; rw [← List.take_append_drop k ps, rowsL_append]
  simp
theorem own_nextP {W w1 w2 : World} {v : Value} {n : Nat} {xs : List Value} (hb : Below W.heap.size W w1) (hown : w1.ownsRow W.heap.size 64 1 v n xs) (hgrow : w1.grownBy w2 v.ownBlock) : Below W.heap.size W w2 :=
  hb.grown hgrow hb.size (fun k e => (hown.lt k e).1)

set_option maxHeartbeats 2000000 in
theorem growP_nil (n : Nat) (w : World) (hn : n ≤ 5000000000000) :
    Calls Try.prog 40 #[.slice none 0 0, .int .i64 n] w (NewParts [] w) := by
  obtain ⟨i0, hi, hz0, hz1, hz2⟩ := info_parts infoPiece
  rcases Nat.eq_zero_or_pos n with h0 | h0
  · subst h0
    go_enter Try.func40, Try.ntmps40
    go_wp2
    go_ret
    exact ⟨_, rfl, World.ownsRow_nil _ _ _ _, Grows.refl _⟩
  · have hrz : ∀ ty, (Builtin.append_ #[50, 3] ty #[.slice none 0 0, .int .i64 n]).run Try.prog w =
        .ok (.slice (some ⟨w.heap.size, 0, none⟩) n (grownCap w n 0 64)) (w.drew.alloc (.cells (#[] ++ Builtin.zeroCells (Value.slice none 0 0).cells n ++ Builtin.zeroCells (Value.slice none 0 0).cells (grownCap w n 0 64 - n)) 64)) := fun ty => by
      have hold : (Builtin.firstCells i0.size 0 (.slice none 0 0)).run Try.prog w.drew = .ok (#[] : Array Value) w.drew := run_firstCells_none w.drew i0.size 0 0 0
      have h := Lib.run_append_grow_zeros w 50 3 ty 64 i0 (.slice none 0 0) .i64 .i64 Try.underlying50 Try.underlying3 hi hz0 none 0 0 [] hold n (by omega) (by omega) (by omega) (by omega) (by rw [hz2]; omega) (growslice_fits (by omega) (by rw [hz2]; omega))
      simpa using h
    have hGn : n ≤ grownCap w n 0 64 := grownCap_ge w _ _ _
    have hG63 : grownCap w n 0 64 ≤ 9223372036854775807 := by
      have := grownCap_le_maxLen w n 0 64 (by unfold maxLen; omega)
      unfold maxLen at this
      omega
    generalize grownCap w n 0 64 = G at hrz hGn hG63
    go_enter Try.func40, Try.ntmps40
    go_wp2_with (at_builtin; refine Lib.wpList_append_run _ rfl _ _ _ _ rfl _ _ rfl rfl _ _ (hrz _) ?_)
    go_ret
    have hsz : (Builtin.zeroCells #[Value.slice none 0 0] n ++ Builtin.zeroCells #[Value.slice none 0 0] (G - n)).size = G * 1 := by
      rw [Array.size_append, size_zeroCells, size_zeroCells]; simp; omega
    refine ⟨_, rfl, ?_, ((Grows.refl _).alloc _).drew⟩
    exact (World.ownsRow_made w _ G (Nat.le_refl _) hG63 hsz).drew

set_option maxHeartbeats 2000000 in
theorem concatP_any (g : Nat) (ps : List PRow) (m cap : Nat) (w : World) (hm : m = ps.length) (hg : Rd w 1 (some ⟨g, 0, none⟩) ps.length (ps.map PRow.val)) (hps : ∀ p ∈ ps, p.ok w) (hl : (rowsL ps).length ≤ 5000000000000) (hpl : ps.length ≤ 1000) :
    Calls Try.prog 33 #[.slice (some ⟨g, 0, none⟩) m cap] w (NewParts (rowsL ps) w) := by
  obtain ⟨i0, hi, hz0, hz1, hz2⟩ := info_parts infoPiece
  subst hm
  have HP := Lib.hid hps
  clear hps
  go_enter Try.func33, Try.ntmps33
  go_wp2_with fail
  go_loopg [3, 5, 11] ps.length (fun q v _ i wr => ∃ k : Nat, q + k = ps.length ∧ i = .int .i64 k ∧ v = .int .i64 ((rowsL (ps.take k)).length : Nat) ∧ wr = w)
  case atStart => exact ⟨0, by omega, rfl, rfl, rfl⟩
  case round =>
    obtain ⟨k, hq, rfl, rfl, hw⟩ := hrel
    obtain rfl : w = wr := hw.symm
    have HQ := Lib.hid hq
    have hkl : k ≤ ps.length := by omega
    have hsum := rowsL_le ps k
    clear hq
    by_cases h1 : k < ps.length
    · have hc : w.cell? ⟨g, k, none⟩ = some (.slice ps[k].A ps[k].ps.length ps[k].cap) := by
        obtain ⟨b, o, e, _, hcc⟩ := hg.2 (by omega)
        injection e with e
        injection e with e1 e2
        subst e1 e2
        have := hcc k (ps[k].val) (by simp [h1])
        simpa [PRow.val] using this
      have hst := rowsL_take ps k h1
      have hs2 := rowsL_le ps (k + 1)
      rw [hst, List.length_append] at hs2
      have HT := Lib.hid hst
      clear hst
      go_wp2_with fail
      go_roundg (gk - 1)
      case measure => have := HQ.out; omega
      case rel => exact ⟨k + 1, by have := HQ.out; omega, by go_num, by rw [HT.out, List.length_append]; go_num, rfl⟩
    · have hk : ps.take k = ps := List.take_of_length_le (by omega)
      rw [hk]
      clear hk
      go_wp2_with fail
      (with_reducible refine (growP_nil (rowsL ps).length _ (by omega)).mono ?_)
      rintro e w1 ⟨v, rfl, hown, m1, rfl⟩
      go_wp2_with fail
      go_loopg [6, 8, 27] ps.length (fun q v _ i wx => ∃ k : Nat, q + k = ps.length ∧ i = .int .i64 k ∧ wx.ownsRow w.heap.size 64 1 v (rowsL (ps.take k)).length (pv (rowsL (ps.take k))) ∧ Below w.heap.size w wx)
      case atStart => exact ⟨0, by omega, rfl, hown, (Grows.of w m1).below⟩
      case round =>
        obtain ⟨k, hq, rfl, hrow, hB⟩ := hrel
        have HQ := Lib.hid hq
        have hkl : k ≤ ps.length := by omega
        have hbs := hB.size
        clear hq
        by_cases h2 : k < ps.length
        · have hc : w.cell? ⟨g, k, none⟩ = some (.slice ps[k].A ps[k].ps.length ps[k].cap) ∧ g < w.heap.size := by
            obtain ⟨b, o, e, hlt, hcc⟩ := hg.2 (by omega)
            injection e with e
            injection e with e1 e2
            subst e1 e2
            have := hcc k (ps[k].val) (by simp [h2])
            exact ⟨by simpa [PRow.val] using this, hlt⟩
          have hc2 := (hB.cell (p := ⟨g, k, none⟩) hc.2).trans hc.1
          obtain ⟨hp1, hp2⟩ := PRow.grows (HP.out ps[k] (List.getElem_mem h2)) (Grows.of_below hB)
          have hst := rowsL_take ps k h2
          have hs2 := rowsL_le ps (k + 1)
          rw [hst, List.length_append] at hs2
          have HT := Lib.hid hst
          have HN := Lib.hid hp2
          clear hst hc hp2
          go_wp2_with (at_builtin; refine wpList_append_rd _ rfl (.tmp 31) (.tmp 32) 50 rfl w.heap.size 64 i0 (.slice none 0 0) 24 Try.underlying50 hi hz0 hz1 hz2 rfl _ _ _ rfl hrow ps[k].A _ ps[k].cap (pv ps[k].ps) rfl HN.out hp1 (pv_one _) (by unfold maxLen; omega) (by omega) hbs ?_; intro v1 w1 hown1 hgrow1; have hb1 := own_nextP hB hrow hgrow1; clear hgrow1)
          go_roundg (gk - 1)
          case measure => have := HQ.out; omega
          case rel => exact ⟨k + 1, by have := HQ.out; omega, by go_num, by rw [HT.out, List.length_append, ← pv_append]; exact hown1, hb1⟩
        · have hk : ps.take k = ps := List.take_of_length_le (by omega)
          rw [hk] at hrow
          clear hk
          go_wp2_with fail
          go_ret
          exact ⟨_, rfl, hrow, Grows.of_below hB⟩
end Go.Proofs.Ytblcggmbaofflaa
