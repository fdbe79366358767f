/-
  Pieces: the walks of parts, Len, Lines, Line, Pieces.
-/
import Derived.Test.YtblcggmbaofflaaConcatP
namespace Go.Proofs.Ytblcggmbaofflaa
open Go.RowKit

theorem partsV_take (ps : List Part) (f t : Nat) : ∀ (n k : Nat) (h : k < ps.length), partsV (ps.take (k + 1)) n f t = partsV (ps.take k) n f t ++ (if f - (n + (partsL (ps.take k)).length) < min (t - (n + (partsL (ps.take k)).length)) ps[k].d.length then [ps[k].cutAt (f - (n + (partsL (ps.take k)).length)) (min (t - (n + (partsL (ps.take k)).length)) ps[k].d.length)] else []) := by
  induction ps with
  | nil => intro n k h; simp at h
  | cons p ps ih =>
    intro n k h
    cases k with
    | zero => simp only [List.take_succ_cons, List.take_zero, partsV, partsL, List.length_nil, Nat.add_zero, List.getElem_cons_zero, List.nil_append]
    | succ k =>
      have := ih (n + p.d.length) k (by simpa using h)
      simp only [List.take_succ_cons, partsV, partsL, List.length_append, List.getElem_cons_succ]
      rw [this, show n + p.d.length + (partsL (ps.take k)).length = n + (p.d.length + (partsL (ps.take k)).length) by omega]
      split <;> simp

set_option maxHeartbeats 2000000 in
theorem parts_any (T : Tbl) (f t : Nat) (w : World) (hT : T.ok w) (hf : f ≤ 1000000) (ht : t ≤ 1000000) :
    Calls Try.prog 34 #[T.val, .int .i64 f, .int .i64 t] w (NewParts (partsV T.ps 0 f t) w) := by
  obtain ⟨i0, hi, hz0, hz1, hz2⟩ := info_parts infoPiece
  obtain ⟨g, P, cap, ps⟩ := T
  obtain ⟨hblk, hA, hps, hl⟩ := hT
  simp only [] at hblk hA hps hl
  have hcnt := full_count fun p hp => (hps p hp).2
  have HP := Lib.hid hps
  clear hps
  have e0 := Blk.cell hblk (by simp) 0
  have hix := Blk.inHeap hblk (by simp)
  simp only [List.size_toArray, List.length_cons, List.length_nil, Nat.zero_add, Nat.reduceAdd, Nat.reduceLT, getElem?_pos, List.getElem_toArray, List.getElem_cons_succ, List.getElem_cons_zero] at e0
  clear hblk
  go_enter Try.func34, Try.ntmps34
  simp only [Tbl.val]
  go_wp2_with fail
  go_loopg [7, 8, 10, 11, 12, 18] ps.length (fun q v n _ _ _ i wr => ∃ k : Nat, q + k = ps.length ∧ i = .int .i64 k ∧ n = .int .i64 (partsL (ps.take k)).length ∧ wr.ownsRow w.heap.size 64 1 v (partsV (ps.take k) 0 f t).length (pv (partsV (ps.take k) 0 f t)) ∧ Below w.heap.size w wr)
  case atStart => exact ⟨0, by omega, rfl, rfl, World.ownsRow_nil _ _ _ _, Below.refl _ _⟩
  case round =>
    obtain ⟨k, hq, rfl, rfl, hrow, hB⟩ := hrel
    have HQ := Lib.hid hq
    have hkl : k ≤ ps.length := by omega
    clear hq
    have hsum := partsL_le ps k
    have hfl := partsV_le (ps.take k) 0 f t
    rw [List.length_take, Nat.min_eq_left hkl] at hfl
    have hbs := hB.size
    by_cases h1 : k < ps.length
    · obtain ⟨b, o, rfl, hb, ec⟩ := (hA.grows (Grows.of_below hB)).part k h1
      have hgd := (HP.out ps[k] (List.getElem_mem h1)).1.grows (Grows.of_below hB)
      have hT := Lib.hid (partsL_take ps k h1)
      have hF := Lib.hid (partsV_take ps f t 0 k h1)
      have hs2 := partsL_le ps (k + 1)
      rw [partsL_take ps k h1, List.length_append] at hs2
      generalize hN : (partsL (ps.take k)).length = N at *
      have hsub1 : max ((f : Int) - (N : Int)) 0 = ((f - N : Nat) : Int) := by omega
      by_cases h2 : f - N < min (t - N) ps[k].d.length
      · have hsub2 : min ((t : Int) - (N : Int)) (ps[k].d.length : Int) = ((min (t - N) ps[k].d.length : Nat) : Int) := by omega
        have hlt : ((f - N : Nat) : Int) < ((min (t - N) ps[k].d.length : Nat) : Int) := by omega
        go_wp2_with fail
        (with_reducible refine (cut_any ps[k] _ _ _ hgd h2 (Nat.min_le_right _ _)).mono ?_)
        rintro e w' ⟨rfl, rfl⟩
        have hF2 : Hid (partsV (ps.take (k + 1)) 0 f t = partsV (ps.take k) 0 f t ++ [ps[k].cutAt (f - N) (min (t - N) ps[k].d.length)]) := Lib.hid (by have := hF.out; simp only [Nat.zero_add] at this; rw [if_pos h2] at this; exact this)
        generalize ps[k].cutAt (f - N) (min (t - N) ps[k].d.length) = q at hF2 ⊢
        simp only [Part.val]
        clear hgd
        go_wp2_with (at_builtin; refine wpList_append_own _ rfl (.tmp 35) (.tmp 40) 50 rfl w.heap.size 64 i0 (.slice none 0 0) 1 24 Try.underlying50 hi hz0 hz1 hz2 rfl (by decide) _ _ _ rfl (hrow.alloc _) ⟨wr.heap.size, 0, none⟩ 1 1 [.slice q.A q.d.length q.cap] rfl rfl (cell_one_new _ _ _) (by simp [Value.oneCell']) (by unfold maxLen; omega) (by omega) (by simp; omega) ?_; intro v' w1 hown' hgrow _; have hb1 := own_below1 hB hrow hbs hgrow; clear hgrow)
        go_roundg (gk - 1)
        case measure => have := HQ.out; omega
        case rel => exact ⟨k + 1, by have := HQ.out; omega, by go_num, by rw [hT.out, List.length_append]; go_num, by rw [hF2.out, List.length_append, ← pv_append]; exact hown', hb1⟩
      · have hsub2 : ¬ max ((f : Int) - (N : Int)) 0 < min ((t : Int) - (N : Int)) (ps[k].d.length : Int) := by omega
        have hF2 : Hid (partsV (ps.take (k + 1)) 0 f t = partsV (ps.take k) 0 f t) := Lib.hid (by have := hF.out; simp only [Nat.zero_add] at this; rw [if_neg h2, List.append_nil] at this; exact this)
        go_wp2_with fail
        go_roundg (gk - 1)
        case measure => have := HQ.out; omega
        case rel => exact ⟨k + 1, by have := HQ.out; omega, by go_num, by rw [hT.out, List.length_append]; go_num, by rw [hF2.out]; exact hrow, hB⟩
    · have hk : ps.take k = ps := List.take_of_length_le (by omega)
      rw [hk] at hrow
      clear hk
      go_wp2_with fail
      go_ret
      exact ⟨_, rfl, hrow, Grows.of_below hB⟩
end Go.Proofs.Ytblcggmbaofflaa
