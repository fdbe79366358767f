/-
  Pieces: the walks of Len, Lines, Line, Pieces, New, Text.
-/
import Derived.Test.YtblcggmbaofflaaPiecesAsk
import Derived.Test.YtblcggmbaofflaaPiecesRef
import Derived.Test.YtblcggmbaofflaaAppendTo
namespace Go.Proofs.Ytblcggmbaofflaa
open Go.RowKit

theorem len_any (T : Tbl) (w : World) (hT : T.ok w) : Calls Try.prog 21 #[T.val] w fun e w' => e = .returned (.int .i64 T.L.length) ∧ w = w' := by
  obtain ⟨g, P, cap, ps⟩ := T
  have e1 := Blk.cell hT.cells (by simp) 1
  simp only [List.size_toArray, List.length_cons, List.length_nil, Nat.zero_add, Nat.reduceAdd, Nat.reduceLT, getElem?_pos, List.getElem_toArray, List.getElem_cons_succ, List.getElem_cons_zero] at e1
  clear hT
  unfold Tbl.val Tbl.L
  simp only []
  go_enter Try.func21, Try.ntmps21
  go_wp2_with fail
  go_ret
  exact ⟨rfl, rfl⟩
theorem len_nil (w : World) : Calls Try.prog 21 #[.pointer none] w fun e w' => e = .returned (.int .i64 0) ∧ w = w' := by
  go_enter Try.func21, Try.ntmps21
  go_wp2_with fail
  go_ret
  exact ⟨rfl, rfl⟩
theorem pieces_any (T : Tbl) (w : World) (hT : T.ok w) : Calls Try.prog 28 #[T.val] w fun e w' => e = .returned (.int .i64 T.ps.length) ∧ w = w' := by
  obtain ⟨g, P, cap, ps⟩ := T
  have e1 := Blk.cell hT.cells (by simp) 0
  simp only [List.size_toArray, List.length_cons, List.length_nil, Nat.zero_add, Nat.reduceAdd, Nat.reduceLT, getElem?_pos, List.getElem_toArray, List.getElem_cons_succ, List.getElem_cons_zero] at e1
  clear hT
  unfold Tbl.val
  simp only []
  go_enter Try.func28, Try.ntmps28
  go_wp2_with fail
  go_ret
  exact ⟨rfl, rfl⟩
theorem pieces_nil (w : World) : Calls Try.prog 28 #[.pointer none] w fun e w' => e = .returned (.int .i64 0) ∧ w = w' := by
  go_enter Try.func28, Try.ntmps28
  go_wp2_with fail
  go_ret
  exact ⟨rfl, rfl⟩

set_option maxHeartbeats 2000000 in
theorem lines_any (T : Tbl) (f t : Int) (w : World) (hT : T.ok w) (hf : I64 f) (ht : I64 t) :
    Calls Try.prog 26 #[T.val, .int .i64 f, .int .i64 t] w (NewLines (rangeV T.L f t) w) := by
  obtain ⟨i0, hi, hz0, hz1, hz2⟩ := info_parts infoStr
  unfold I64 at hf ht
  have hsm : T.L.length ≤ 1000000 := hT.small
  by_cases hft : min t T.L.length < max f 1
  · have HV : Hid (rangeV T.L f t = []) := Lib.hid (by unfold rangeV; exact List.drop_eq_nil_of_le (by simp; omega))
    go_enter Try.func26, Try.ntmps26
    go_wp2_with fail
    (with_reducible refine (len_any T _ hT).mono ?_)
    rintro e w' ⟨rfl, rfl⟩
    go_wp2_with fail
    go_ret
    exact ⟨_, rfl, by rw [HV.out]; exact World.ownsRow_nil _ _ _ _, Grows.refl _⟩
  · obtain ⟨F, hF⟩ : ∃ F : Nat, max f 1 = (F : Int) + 1 := ⟨(max f 1 - 1).toNat, by omega⟩
    obtain ⟨E, hE⟩ : ∃ E : Nat, min t T.L.length = (E : Int) := ⟨(min t T.L.length).toNat, by omega⟩
    have hFE : F + 1 ≤ E := by omega
    have hEn : E ≤ T.L.length := by omega
    have hV : rangeV T.L f t = partsL (partsV T.ps 0 F E) := by
      rw [partsV_lines]
      unfold rangeV Tbl.L
      have e1 : (max f 1 - 1).toNat = F - 0 := by omega
      have e2 : (partsL T.ps).take t.toNat = (partsL T.ps).take (E - 0) := by
        have hE : min t ((partsL T.ps).length : Int) = (E : Int) := hE
        by_cases h : t ≤ (partsL T.ps).length
        · congr 1; omega
        · rw [List.take_of_length_le (by omega), List.take_of_length_le (by omega)]
      rw [e1, e2]
    have hq : ∀ q ∈ partsV T.ps 0 F E, q.good w ∧ 0 < q.d.length := by
      intro q hq
      obtain ⟨p, hp, a, b, hab, hb, rfl⟩ := partsV_some _ _ _ _ q hq
      obtain ⟨h1, h2⟩ := Part.cutAt_good (hT.each p hp).1 a b hab hb
      exact ⟨h1, by omega⟩
    have hql : (partsV T.ps 0 F E).length ≤ 1000000 := by
      have := partsV_le T.ps 0 F E
      have := hT.count
      have : (partsL T.ps).length ≤ 1000000 := hT.small
      omega
    have hqs : (partsL (partsV T.ps 0 F E)).length ≤ 1000000 := by
      rw [← hV]; have := rangeV_le T.L f t; omega
    have HV := Lib.hid hV
    have HQ := Lib.hid hq
    clear hV hq
    go_enter Try.func26, Try.ntmps26
    go_wp2_with fail
    (with_reducible refine (len_any T _ hT).mono ?_)
    rintro e w' ⟨rfl, rfl⟩
    go_wp2_with fail
    (with_reducible refine (parts_any T F E _ hT (by omega) (by omega)).mono ?_)
    rintro e w1 ⟨v1, rfl, hown1, m1, rfl⟩
    obtain ⟨A1, c1, rfl, hc1, hc16, hA1, hn1, hs1⟩ := own_parts hown1
    have hgw := Grows.of w m1
    clear hown1 hn1 hs1
    generalize more w m1 = W at hA1 hgw ⊢
    generalize partsV T.ps 0 F E = qs at *
    go_wp2_with fail
    go_loopg [7, 9, 25] qs.length (fun q v _ i wr => ∃ k : Nat, q + k = qs.length ∧ i = .int .i64 k ∧ wr.ownsRow W.heap.size 9 1 v (partsL (qs.take k)).length (lv (partsL (qs.take k))) ∧ Below W.heap.size W wr)
    case atStart => exact ⟨0, by omega, rfl, World.ownsRow_nil _ _ _ _, Below.refl _ _⟩
    case round =>
      obtain ⟨k, hq, rfl, hrow, hB⟩ := hrel
      have HK := Lib.hid hq
      have hkl : k ≤ qs.length := by omega
      clear hq
      have hsum := partsL_le qs k
      have hbs := hB.size
      by_cases h1 : k < qs.length
      · obtain ⟨b, o, rfl, hb, ec⟩ := (hA1.grows (Grows.of_below hB)).part k h1
        have hgd := ((HQ.out qs[k] (List.getElem_mem h1)).1.grows hgw).grows (Grows.of_below hB)
        obtain ⟨⟨hr, hn⟩, hc, hc6⟩ := hgd
        have HN := Lib.hid hn
        have hs2 := partsL_le qs (k + 1)
        rw [partsL_take qs k h1, List.length_append] at hs2
        have HT := Lib.hid (partsL_take qs k h1)
        clear hn
        go_wp2_with (at_builtin; refine wpList_append_to _ rfl (.tmp 29) (.tmp 30) 22 64 rfl W.heap.size 9 9 i0 (.string ⟨#[]⟩) 16 Try.underlying22 Try.underlying64 hi hz0 hz1 hz2 rfl _ _ _ rfl hrow qs[k].A _ qs[k].cap (lv qs[k].d) rfl HN.out hr (lv_one _) (by unfold maxLen; omega) (by omega) hbs ?_; intro v1 w1 hown1 hgrow1; have hb1 := own_next hB hrow hgrow1; clear hgrow1)
        go_roundg (gk - 1)
        case measure => have := HK.out; omega
        case rel => exact ⟨k + 1, by have := HK.out; omega, by go_num, by rw [HT.out, List.length_append, ← lv_append]; exact hown1, hb1⟩
      · have hk : qs.take k = qs := List.take_of_length_le (by omega)
        rw [hk] at hrow
        clear hk
        go_wp2_with fail
        go_ret
        exact ⟨_, rfl, by rw [HV.out]; exact own_le hrow hgw.below.size, hgw.trans (Grows.of_below hB)⟩
theorem lines_nil (f t : Int) (w : World) (hf : I64 f) (ht : I64 t) :
    Calls Try.prog 26 #[.pointer none, .int .i64 f, .int .i64 t] w fun e w' => e = .returned (.slice none 0 0) ∧ w = w' := by
  unfold I64 at hf ht
  have hft : min t 0 < max f 1 := by omega
  go_enter Try.func26, Try.ntmps26
  go_wp2_with fail
  (with_reducible refine (len_nil _).mono ?_)
  rintro e w' ⟨rfl, rfl⟩
  go_wp2_with fail
  go_ret
  exact ⟨rfl, rfl⟩
end Go.Proofs.Ytblcggmbaofflaa
