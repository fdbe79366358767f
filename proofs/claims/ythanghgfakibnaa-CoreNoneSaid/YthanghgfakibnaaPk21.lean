/-
  slices.Grow of nil and slices.Concat, at lists of strings.
-/
import Derived.Test.YthanghgfakibnaaPk04
namespace Go.Proofs.Ythanghgfakibnaa
open Go.RowKit

set_option maxRecDepth 3000 in
set_option maxHeartbeats 2000000 in
theorem grow_nil (n : Nat) (w : World) (hn : n ≤ 8000000000000) :
    Calls Try.prog 91 #[.slice none 0 0, .int .i64 n] w (NewLines [] w) := by
  obtain ⟨i0, hi, hz0, hz1, hz2⟩ := info_parts infoStr
  rcases Nat.eq_zero_or_pos n with h0 | h0
  · subst h0
    go_enter Try.func91, Try.ntmps91
    go_wp2
    go_ret
    exact ⟨_, rfl, World.ownsRow_nil _ _ _ _, Grows.refl _⟩
  · have hrz : ∀ ty, (Builtin.append_ #[22, 3] ty #[.slice none 0 0, .int .i64 n]).run Try.prog w =
        .ok (.slice (some ⟨w.heap.size, 0, none⟩) n (grownCap w n 0 9)) (w.drew.alloc (.cells (#[] ++ Builtin.zeroCells (Value.string ⟨#[]⟩).cells n ++ Builtin.zeroCells (Value.string ⟨#[]⟩).cells (grownCap w n 0 9 - n)) 9)) := fun ty => by
      have hold : (Builtin.firstCells i0.size 0 (.slice none 0 0)).run Try.prog w.drew = .ok (#[] : Array Value) w.drew := run_firstCells_none w.drew i0.size 0 0 0
      have h := Lib.run_append_grow_zeros w 22 3 ty 9 i0 (.string ⟨#[]⟩) .i64 .i64 Try.underlying22 Try.underlying3 hi hz0 none 0 0 [] hold n (by omega) (by omega) (by omega) (by omega) (by rw [hz2]; omega) (growslice_fits (by omega) (by rw [hz2]; omega))
      simpa using h
    have hGn : n ≤ grownCap w n 0 9 := grownCap_ge w _ _ _
    have hG63 : grownCap w n 0 9 ≤ 9223372036854775807 := by
      have := grownCap_le_maxLen w n 0 9 (by unfold maxLen; omega)
      unfold maxLen at this
      omega
    generalize grownCap w n 0 9 = G at hrz hGn hG63
    go_enter Try.func91, Try.ntmps91
    go_wp2_with (at_builtin; refine Lib.wpList_append_run _ rfl _ _ _ _ rfl _ _ rfl rfl _ _ (hrz _) ?_)
    go_ret
    have hsz : (Builtin.zeroCells #[Value.string ⟨#[]⟩] n ++ Builtin.zeroCells #[Value.string ⟨#[]⟩] (G - n)).size = G * 1 := by
      rw [Array.size_append, size_zeroCells, size_zeroCells]; simp; omega
    refine ⟨_, rfl, ?_, ((Grows.refl _).alloc _).drew⟩
    exact (World.ownsRow_made w _ G (Nat.le_refl _) hG63 hsz).drew

set_option maxRecDepth 3000 in
set_option maxHeartbeats 2000000 in
theorem concat_any (g : Nat) (ps : List Part) (m cap : Nat) (w : World) (hm : m = ps.length) (hg : Rd w 1 (some ⟨g, 0, none⟩) ps.length (ps.map Part.val)) (hps : ∀ p ∈ ps, p.ok w) (hl : (partsL ps).length ≤ 8000000000000) (hpl : ps.length ≤ 1000) :
    Calls Try.prog 75 #[.slice (some ⟨g, 0, none⟩) m cap] w (NewLines (partsL ps) w) := by
  obtain ⟨i0, hi, hz0, hz1, hz2⟩ := info_parts infoStr
  subst hm
  have HP := Lib.hid hps
  clear hps
  go_enter Try.func75, Try.ntmps75
  go_wp2_with fail
  go_loopg [3, 5, 11] ps.length (fun q v _ i wr => ∃ k : Nat, q + k = ps.length ∧ i = .int .i64 k ∧ v = .int .i64 ((partsL (ps.take k)).length : Nat) ∧ wr = w)
  case atStart => exact ⟨0, by omega, rfl, rfl, rfl⟩
  case round =>
    obtain ⟨k, hq, rfl, rfl, hw⟩ := hrel
    obtain rfl : w = wr := hw.symm
    have HQ := Lib.hid hq
    have hkl : k ≤ ps.length := by omega
    have hsum := partsL_le ps k
    clear hq
    by_cases h1 : k < ps.length
    · have hc : w.cell? ⟨g, k, none⟩ = some (.slice ps[k].A ps[k].d.length ps[k].cap) := by
        obtain ⟨b, o, e, _, hcc⟩ := hg.2 (by omega)
        injection e with e
        injection e with e1 e2
        subst e1 e2
        have := hcc k (ps[k].val) (by simp [h1])
        simpa [Part.val] using this
      have hst := partsL_take ps k h1
      have hs2 := partsL_le ps (k + 1)
      rw [hst, List.length_append] at hs2
      have HT := Lib.hid hst
      clear hst
      go_wp2_with fail
      go_roundg (gk - 1)
      case measure => have := HQ.out; omega
      case rel => exact ⟨k + 1, by have := HQ.out; omega, by go_num, by rw [HT.out, List.length_append]; go_num, rfl⟩
    · have hk : ps.take k = ps := List.take_of_length_le (by omega)
      rw [hk]
      clear hk
      go_wp2_with fail
      (with_reducible refine (grow_nil (partsL ps).length _ (by omega)).mono ?_)
      rintro e w1 ⟨v, rfl, hown, m1, rfl⟩
      go_wp2_with fail
      go_loopg [6, 8, 27] ps.length (fun q v _ i wx => ∃ k : Nat, q + k = ps.length ∧ i = .int .i64 k ∧ wx.ownsRow w.heap.size 9 1 v (partsL (ps.take k)).length (lv (partsL (ps.take k))) ∧ Below w.heap.size w wx)
      case atStart => exact ⟨0, by omega, rfl, hown, (Grows.of w m1).below⟩
      case round =>
        obtain ⟨k, hq, rfl, hrow, hB⟩ := hrel
        have HQ := Lib.hid hq
        have hkl : k ≤ ps.length := by omega
        have hbs := hB.size
        clear hq
        by_cases h2 : k < ps.length
        · have hc : w.cell? ⟨g, k, none⟩ = some (.slice ps[k].A ps[k].d.length ps[k].cap) ∧ g < w.heap.size := by
            obtain ⟨b, o, e, hlt, hcc⟩ := hg.2 (by omega)
            injection e with e
            injection e with e1 e2
            subst e1 e2
            have := hcc k (ps[k].val) (by simp [h2])
            exact ⟨by simpa [Part.val] using this, hlt⟩
          have hc2 := (hB.cell (p := ⟨g, k, none⟩) hc.2).trans hc.1
          obtain ⟨hp1, hp2⟩ := Part.grows (HP.out ps[k] (List.getElem_mem h2)) (Grows.of_below hB)
          have hst := partsL_take ps k h2
          have hs2 := partsL_le ps (k + 1)
          rw [hst, List.length_append] at hs2
          have HT := Lib.hid hst
          have HN := Lib.hid hp2
          clear hst hc hp2
          go_wp2_with (at_builtin; refine wpList_append_rd _ rfl (.tmp 31) (.tmp 32) 22 rfl w.heap.size 9 i0 (.string ⟨#[]⟩) 16 Try.underlying22 hi hz0 hz1 hz2 rfl _ _ _ rfl hrow ps[k].A _ ps[k].cap (lv ps[k].d) rfl HN.out hp1 (lv_one _) (by unfold maxLen; omega) (by omega) hbs ?_; intro v1 w1 hown1 hgrow1; have hb1 := own_next hB hrow hgrow1; clear hgrow1)
          go_roundg (gk - 1)
          case measure => have := HQ.out; omega
          case rel => exact ⟨k + 1, by have := HQ.out; omega, by go_num, by rw [HT.out, List.length_append, ← lv_append]; exact hown1, hb1⟩
        · have hk : ps.take k = ps := List.take_of_length_le (by omega)
          rw [hk] at hrow
          clear hk
          go_wp2_with fail
          go_ret
          exact ⟨_, rfl, hrow, Grows.of_below hB⟩
end Go.Proofs.Ythanghgfakibnaa
