/-
  strings.IndexAny, strings.ContainsAny of a blank and a tabulator, at every text. (Printed by idxbl.py.)
-/
import Derived.Test.YtpdlmknbpggohaaDoorPk12
import Derived.Test.YtpdlmknbpggohaaDoorPk11
namespace Go.Proofs.YtpdlmknbpggohaaDoor
open Go.RowKit

attribute [local go_sem] tx_bt tx_from
set_option maxRecDepth 100000 in
set_option maxHeartbeats 2000000 in
theorem indexRune_no_bl (r : Int) (w : World) (h0 : 128 ≤ r) (h1 : r ≤ 1114111) : Calls Tryd.prog 40 #[.string (tx [32, 9]), .int .i32 r] w fun e w' => e = .returned (.int .i64 (-1)) ∧ Grows w w' := by
  have c0 : (0 : Int) ≤ r := by omega
  have c1 : ¬r < 128 := by omega
  have ht : (tx [32, 9]).size = 2 := by simp
  go_enter Tryd.func40, Tryd.ntmps40
  by_cases h2 : r = 65533
  · subst h2
    go_wp2_with fail
    go_loopg [5, 6] 3 (fun q _ _ wx => ∃ i : Nat, q + i = 3 ∧ i ≤ 2 ∧ wx = w.iter (tx [32, 9]) i)
    case atStart => exact ⟨0, by omega, by omega, rfl⟩
    case round =>
      obtain ⟨i, hq, hi, rfl⟩ := hrel
      have HQ := Lib.hid hq
      clear hq
      rcases (show i = 0 ∨ i = 1 ∨ i = 2 by omega) with rfl | rfl | rfl
      · have hnx := fun ty => run_next_ascii (P := Tryd.prog) w (tx [32, 9]) 0 ty (by simp) (by rw [tx_bt]; decide)
        rw [show ((tx [32, 9])[0]'(by simp)).toNat = 32 from rfl] at hnx
        go_wp2_with fail
        go_roundg (gk - 1)
        case measure => have := HQ.out; omega
        case rel => exact ⟨1, by have := HQ.out; omega, by omega, rfl⟩
      · have hnx := fun ty => run_next_ascii (P := Tryd.prog) w (tx [32, 9]) 1 ty (by simp) (by rw [tx_bt]; decide)
        rw [show ((tx [32, 9])[1]'(by simp)).toNat = 9 from rfl] at hnx
        go_wp2_with fail
        go_roundg (gk - 1)
        case measure => have := HQ.out; omega
        case rel => exact ⟨2, by have := HQ.out; omega, by omega, rfl⟩
      · have hnx := fun ty => run_next_end (P := Tryd.prog) w (tx [32, 9]) 2 ty (by simp)
        go_wp2_with fail
        go_ret
        exact ⟨rfl, (Grows.refl _).alloc _⟩
  · have c2 : (r == 65533) = false := by rw [beq_eq_false_iff_ne]; exact h2
    have hbig : r < 2147483648 := by omega
    cases hv : Lib.validRune r with
    | false =>
      go_wp2_with fail
      (with_reducible refine (Tryd.utf8_ValidRune _ _).mono ?_)
      rw [hv]
      rintro e w1 ⟨rfl, rfl⟩
      go_wp2_with fail
      go_ret
      exact ⟨rfl, Grows.refl _⟩
    | true =>
      obtain ⟨a, ha, l2, l4, hb⟩ := enc2 r h0 hv
      have hcv := run_rune_string r
      rw [ha] at hcv
      go_wp2_with fail
      (with_reducible refine (Tryd.utf8_ValidRune _ _).mono ?_)
      rw [hv]
      rintro e w1 ⟨rfl, hw⟩
      have hw := hw.symm
      subst hw
      rcases (show a.length = 2 ∨ a.length = 3 ∨ a.length = 4 by omega) with hl | hl | hl
      · have hb1 := hb hl
        have hbl := bt_lt a 1
        have hsz : (tx a).size = 2 := by simp [hl]
        have hx : (tx [32, 9]).extract 2 2 = tx [] := tx_from [32, 9] 2
        have hne : ((9 : Int) != (bt a 1 : Int)) = true := by simp; omega
        have hb92 : bt [32, 9] 1 = 9 := rfl
        go_wp2_with fail
        go_step3
        go_wp2_with fail
        go_loopg [9, 10, 11, 12] 2 (fun q v9 v10 _ _ wx => v9 = .int .i64 1 ∧ v10 = .int .i64 0 ∧ Grows w wx)
        case atStart => exact ⟨rfl, rfl, Grows.refl _⟩
        case round =>
          obtain ⟨rfl, rfl, hg⟩ := hrel
          have HG := Lib.hid hg
          clear hg
          go_upto_region 6 with fail
          go_step3
          go_upto_region 6 with fail
          go_quiet (fail)
          go_upto_region 7 with fail
          have w1' : IntKind.i64.wrap 2 = 2 := rfl
          have hib : ∀ c, Lib.indexByte (tx []).data.toList c = -1 := fun _ => rfl
          have hib2 : ∀ c, Lib.indexByte [] c = -1 := fun _ => rfl
          have hib3 : ∀ c, Lib.indexByte ByteArray.empty.data.toList c = -1 := fun _ => rfl
          go_quiet ((go_at_call 58; exact (Tryd.strings_IndexByte _ _ _).mono (fun _ _ h => ⟨h.1, _, h.2⟩)))
          go_wp2_with fail
          rw [Exit.noGoto_ret]
          go_wp2_with fail
          rw [Exit.noGoto_ret]
          go_ret
          exact ⟨rfl, HG.out.drewN _⟩
      · have hsz : (tx a).size = 3 := by simp [hl]
        go_wp2_with fail
        go_step3
        go_wp2_with fail
        go_loopg [9, 10, 11, 12] 1 (fun q v9 _ _ _ wx => v9 = .int .i64 2 ∧ wx = w)
        case atStart => exact ⟨rfl, rfl⟩
        case round =>
          obtain ⟨rfl, rfl⟩ := hrel
          go_wp2_with fail
          rw [Exit.noGoto_ret]
          go_ret
          exact ⟨rfl, Grows.refl _⟩
      · have hsz : (tx a).size = 4 := by simp [hl]
        go_wp2_with fail
        go_step3
        go_wp2_with fail
        go_loopg [9, 10, 11, 12] 1 (fun q v9 _ _ _ wx => v9 = .int .i64 3 ∧ wx = w)
        case atStart => exact ⟨rfl, rfl⟩
        case round =>
          obtain ⟨rfl, rfl⟩ := hrel
          go_wp2_with fail
          rw [Exit.noGoto_ret]
          go_ret
          exact ⟨rfl, Grows.refl _⟩
set_option maxRecDepth 3000 in
theorem contains_of_bl (c : UInt8) : ([32, 9] : List UInt8).contains c = decide (c.toNat = 32 ∨ c.toNat = 9) := by
  rw [Bool.eq_iff_iff]
  simp only [List.contains_eq_mem, List.mem_cons, List.not_mem_nil, or_false, decide_eq_true_eq]
  exact ⟨fun h => h.elim (fun e => .inl (by rw [e]; rfl)) (fun e => .inr (by rw [e]; rfl)), fun h => h.elim (fun e => .inl (UInt8.toNat_inj.1 e)) (fun e => .inr (UInt8.toNat_inj.1 e))⟩
set_option maxRecDepth 3000 in
theorem noAny_step_bl {s : List UInt8} {i k : Nat} (h : Lib.NoAny s [32, 9] i) (hk : ∀ j, i ≤ j → j < i + k → 128 ≤ bt s j) : Lib.NoAny s [32, 9] (i + k) := by
  intro j b hj hb
  rcases Nat.lt_or_ge j i with h1 | h1
  · exact h j b h1 hb
  · have h2 := hk j h1 hj
    obtain ⟨h3, h4⟩ := List.getElem?_eq_some_iff.1 hb
    rw [bt_get s j h3, h4] at h2
    rw [contains_of_bl]
    simp
    omega
set_option maxRecDepth 3000 in
theorem indexByte_bl (c : UInt8) : (0 ≤ Lib.indexByte [32, 9] c) ↔ ([32, 9] : List UInt8).contains c = true := by
  have := Lib.contains_iff_indexByte [32, 9] c
  rw [this]; simp
set_option maxRecDepth 100000 in
set_option maxHeartbeats 2000000 in
theorem indexAny_short_bl (s : List UInt8) (w : World) (h8 : s.length ≤ 8) : Calls Tryd.prog 25 #[.string (tx s), .string (tx [32, 9])] w fun e w' => e = .returned (.int .i64 (Lib.indexAny s [32, 9])) ∧ Grows w w' := by
  have hsz : (tx [32, 9]).size = 2 := by simp
  have hemp : ((tx [32, 9]).toList == ([] : List UInt8)) = false := by rw [ByteArray.toList_eq]; rfl
  have h8z : decide ((8 : Int) < (s.length : Int)) = false := by simp; omega
  go_enter Tryd.func25, Tryd.ntmps25
  go_wp2_with fail
  (with_reducible refine (Tryd.strings_shouldUseASCIISet _ _).mono ?_)
  rw [h8z]
  rintro e w1 ⟨rfl, hw⟩
  have hw := hw.symm
  subst hw
  go_wp2_with fail
  go_loopg [9, 10] s.length (fun q _ _ wx => ∃ i : Nat, q + i = s.length ∧ Lib.NoAny s [32, 9] i ∧ wx.heap[w.heap.size]? = some (.stringIter (tx s) i) ∧ Grows w wx)
  case atStart => exact ⟨0, by omega, Lib.NoAny.zero _ _, by simp [World.iter_heap], (Grows.refl _).alloc _⟩
  case round =>
    obtain ⟨i, hq, hno, hit, hg⟩ := hrel
    have HQ := Lib.hid hq
    have HN := Lib.hid hno
    have HG := Lib.hid hg
    have hil : i ≤ s.length := by omega
    clear hq hno hg
    by_cases h1 : i < s.length
    · have hnx := fun ty => Lib.run_next_any_at (P := Tryd.prog) wr w.heap.size (tx s) i ty hit (by simpa using h1)
      have hgi : Grows w (wr.iterAt w.heap.size (tx s) (i + (Utf8.decode (tx s) i).2)) := Grows.of_below (Lib.below_iterAt HG.out.below (Nat.le_refl _) _ _)
      have hii := Lib.iterAt_heap wr w.heap.size (tx s) i (i + (Utf8.decode (tx s) i).2) hit
      rcases decode_step s i h1 with ⟨hb, hd⟩ | ⟨d1, d2, d3, d4, d5⟩
      · rw [hd] at hnx hgi hii
        simp only [] at hnx hgi hii
        have HGI := Lib.hid hgi
        have HII := Lib.hid hii
        clear hgi hii hd
        go_wp2_with fail
        (with_reducible refine (Tryd.strings_IndexRune_ascii _ _ _ (by omega) (by omega)).mono ?_)
        rw [tx_data, bt_byte]
        have hgd : s[i]? = some (s.getD i 0) := by
          rw [List.getD_eq_getElem?_getD, List.getElem?_eq_getElem h1]; rfl
        have hcb := indexByte_bl (s.getD i 0)
        have HGD := Lib.hid hgd
        clear hgd
        generalize s.getD i 0 = c at *
        rintro e w1 ⟨rfl, hw⟩
        have hw := hw.symm
        subst hw
        cases hin : ([32, 9] : List UInt8).contains c with
        | true =>
          have hge : (0 : Int) ≤ Lib.indexByte [32, 9] c := hcb.2 hin
          have HIN := Lib.hid hin
          clear hcb hin
          go_wp2_with fail
          go_ret
          exact ⟨by rw [Lib.indexAny_hit HN.out HGD.out HIN.out]; rfl, HGI.out⟩
        | false =>
          have hge : ¬(0 : Int) ≤ Lib.indexByte [32, 9] c := fun h => by have := hcb.1 h; rw [hin] at this; cases this
          have HIN := Lib.hid hin
          clear hcb hin
          go_wp2_with fail
          go_roundg (gk - 1)
          case measure => have := HQ.out; omega
          case rel => exact ⟨i + 1, by have := HQ.out; omega, HN.out.succ HGD.out HIN.out, HII.out, HGI.out⟩
      · have HD := Lib.hid d5
        generalize (Utf8.decode (tx s) i).1 = r at *
        generalize (Utf8.decode (tx s) i).2 = k at *
        have HGI := Lib.hid hgi
        have HII := Lib.hid hii
        clear hgi hii d5
        go_wp2_with fail
        (with_reducible refine (indexRune_no_bl r _ (by omega) (by omega)).mono ?_)
        rintro e w2 ⟨rfl, m2, rfl⟩
        go_wp2_with fail
        go_roundg (gk - k)
        case measure => have := HQ.out; omega
        case rel => exact ⟨i + k, by have := HQ.out; omega, noAny_step_bl HN.out HD.out, by rw [heap_more _ _ _ (Array.getElem?_eq_some_iff.1 HII.out).1]; exact HII.out, HGI.out.more _⟩
    · have hnx := fun ty => Lib.run_next_end_at (P := Tryd.prog) wr w.heap.size (tx s) i ty hit (by simpa using h1)
      have hie : i = s.length := by omega
      subst hie
      go_wp2_with fail
      go_ret
      exact ⟨by rw [Lib.indexAny_none HN.out]; rfl, HG.out⟩
set_option maxRecDepth 3000 in
/-- strings.IndexAny of a blank and a tabulator. -/
theorem indexAny_bl (s : List UInt8) (w : World) (hl : s.length ≤ 1000000) : Calls Tryd.prog 25 #[.string (tx s), .string (tx [32, 9])] w fun e w' => e = .returned (.int .i64 (Lib.indexAny s [32, 9])) ∧ Grows w w' := by
  by_cases h8 : s.length ≤ 8
  · exact indexAny_short_bl s w h8
  · have h := Tryd.strings_IndexAny_long (fun w => by kernel_rfl) (tx s) (tx [32, 9]) w (by simp) (by simp; omega) (by simp; omega) (by simp) (by
      intro j b hb
      rw [tx_data] at hb
      have hm := List.mem_of_getElem? hb
      simp only [List.mem_cons, List.not_mem_nil, or_false] at hm
      rcases hm with rfl | rfl <;> decide)
    rw [tx_data, tx_data] at h
    exact h.mono fun e w' ⟨he, hw⟩ => ⟨he, by rw [hw]; exact ((Grows.refl _).alloc _).alloc _⟩
set_option maxRecDepth 3000 in
theorem isBl_contains (c : UInt8) : ([32, 9] : List UInt8).contains c = isBl c := by
  rw [contains_of_bl]
  unfold isBl
  rw [Bool.eq_iff_iff]
  simp
set_option maxRecDepth 3000 in
theorem indexAny_has (s : List UInt8) : (0 : Int) ≤ Lib.indexAny s [32, 9] ↔ s.any isBl = true := by
  induction s with
  | nil => simp [Lib.indexAny]
  | cons c s ih =>
    unfold Lib.indexAny
    rw [isBl_contains, List.any_cons]
    cases isBl c with
    | true => simp
    | false =>
      simp only [Bool.false_or, Bool.false_eq_true, if_false]
      rw [← ih]
      split
      · rename_i h
        have h1 : Lib.indexAny s [32, 9] = -1 := by simpa using h
        rw [h1]
        try simp
      · rename_i h
        have h1 : ¬ Lib.indexAny s [32, 9] = -1 := by simpa using h
        have h2 := Lib.indexAny_ge [32, 9] s
        omega
set_option maxRecDepth 3000 in
theorem containsAny_bl (s : List UInt8) (w : World) (hl : s.length ≤ 1000000) : Calls Tryd.prog 51 #[.string (tx s), .string ⟨#[32, 9]⟩] w fun e w' => e = .returned (.bool (s.any isBl)) ∧ Grows w w' := by
  have hh := indexAny_has s
  have hcall := indexAny_bl s w hl
  go_enter Tryd.func51, Tryd.ntmps51
  go_wp2_with fail
  refine Calls.mono (f := 25) hcall ?_
  rintro e w1 ⟨rfl, hg⟩
  cases hb : s.any isBl with
  | true =>
    have h1 := hh.2 hb
    go_wp2_with fail
    go_ret
    exact ⟨by rw [hb]; rfl, hg⟩
  | false =>
    have h1 : decide ((0 : Int) ≤ Lib.indexAny s [32, 9]) = false := by rw [decide_eq_false_iff_not]; intro h; rw [hh.1 h] at hb; cases hb
    go_wp2_with fail
    go_ret
    exact ⟨by rw [hb]; rfl, hg⟩
end Go.Proofs.YtpdlmknbpggohaaDoor
