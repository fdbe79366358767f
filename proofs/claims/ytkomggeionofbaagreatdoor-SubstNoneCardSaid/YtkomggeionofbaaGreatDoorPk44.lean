/-
  Several texts of the proof: IdxAny, TplPlain.
-/
import Derived.Test.YtkomggeionofbaaGreatDoorPk00
import Derived.Test.YtkomggeionofbaaGreatDoorPk06
import Derived.Laws.RangeAny
import Derived.WalkMore
import Derived.Scope
import Derived.Lib.DecodeN
import Derived.Lib.SpaceUEq
import Derived.Lib.QuoteLoop
import Derived.Lib.TrimU
import Derived.Lib.OthersKept
import Derived.Deep.LoopGhost
set_option linter.unusedSimpArgs false
set_option linter.unusedVariables false
/-
  strings.IndexAny of '&' and '\\', at every text (the shelf's contract leaves out short texts that are not ASCII).
-/
namespace Go.Proofs.YtkomggeionofbaaGreatDoor
open Go.RowKit

attribute [local go_sem] tx_bt tx_from
set_option maxRecDepth 3000 in
theorem enc2 (r : Int) (h0 : 128 ≤ r) (h1 : Lib.validRune r = true) : ∃ a : List UInt8, Utf8.encode r = tx a ∧ 2 ≤ a.length ∧ a.length ≤ 4 ∧ (a.length = 2 → 128 ≤ bt a 1) := by
  have hv : Utf8.valid r = true := by
    unfold Lib.validRune at h1
    unfold Utf8.valid
    simp only [decide_eq_true_eq] at h1
    simp
    omega
  obtain ⟨n, rfl⟩ : ∃ n : Nat, r = n := ⟨r.toNat, by omega⟩
  unfold Utf8.encode
  rw [hv]
  simp only [if_true, Int.toNat_natCast]
  have hn : ¬n < 128 := by omega
  rw [if_neg hn]
  split
  · refine ⟨[UInt8.ofNat (0xC0 + n / 64), UInt8.ofNat (0x80 + n % 64)], rfl, by simp, by simp, fun _ => ?_⟩
    simp [bt]; omega
  · split
    · exact ⟨[UInt8.ofNat (0xE0 + n / 4096), UInt8.ofNat (0x80 + n / 64 % 64), UInt8.ofNat (0x80 + n % 64)], rfl, by simp, by simp, fun h => by simp at h⟩
    · exact ⟨[UInt8.ofNat (0xF0 + n / 262144), UInt8.ofNat (0x80 + n / 4096 % 64), UInt8.ofNat (0x80 + n / 64 % 64), UInt8.ofNat (0x80 + n % 64)], rfl, by simp, by simp, fun h => by simp at h⟩
set_option maxRecDepth 3000 in
theorem run_rune_string (r : Int) (w : World) : (convert 21 9 (.int .i32 r)).run Tryz.prog w = .ok (.string (Utf8.encode r)) w := by
  simp [convert, run_underlying Tryz.underlying21, run_underlying Tryz.underlying9, Conv.intToString]
set_option maxRecDepth 100000 in
set_option maxHeartbeats 2000000 in
theorem indexRune_no (r : Int) (w : World) (h0 : 128 ≤ r) (h1 : r ≤ 1114111) : Calls Tryz.prog 25 #[.string (tx [38, 92]), .int .i32 r] w fun e w' => e = .returned (.int .i64 (-1)) ∧ Grows w w' := by
  have c0 : (0 : Int) ≤ r := by omega
  have c1 : ¬r < 128 := by omega
  have ht : (tx [38, 92]).size = 2 := by simp
  go_enter Tryz.func25, Tryz.ntmps25
  by_cases h2 : r = 65533
  · subst h2
    go_wp2_with fail
    go_loopg [5, 6] 3 (fun q _ _ wx => ∃ i : Nat, q + i = 3 ∧ i ≤ 2 ∧ wx = w.iter (tx [38, 92]) i)
    case atStart => exact ⟨0, by omega, by omega, rfl⟩
    case round =>
      obtain ⟨i, hq, hi, rfl⟩ := hrel
      have HQ := Lib.hid hq
      clear hq
      rcases (show i = 0 ∨ i = 1 ∨ i = 2 by omega) with rfl | rfl | rfl
      · have hnx := fun ty => run_next_ascii (P := Tryz.prog) w (tx [38, 92]) 0 ty (by simp) (by rw [tx_bt]; decide)
        rw [show ((tx [38, 92])[0]'(by simp)).toNat = 38 from rfl] at hnx
        go_wp2_with fail
        go_roundg (gk - 1)
        case measure => have := HQ.out; omega
        case rel => exact ⟨1, by have := HQ.out; omega, by omega, rfl⟩
      · have hnx := fun ty => run_next_ascii (P := Tryz.prog) w (tx [38, 92]) 1 ty (by simp) (by rw [tx_bt]; decide)
        rw [show ((tx [38, 92])[1]'(by simp)).toNat = 92 from rfl] at hnx
        go_wp2_with fail
        go_roundg (gk - 1)
        case measure => have := HQ.out; omega
        case rel => exact ⟨2, by have := HQ.out; omega, by omega, rfl⟩
      · have hnx := fun ty => run_next_end (P := Tryz.prog) w (tx [38, 92]) 2 ty (by simp)
        go_wp2_with fail
        go_ret
        exact ⟨rfl, (Grows.refl _).alloc _⟩
  · have c2 : (r == 65533) = false := by rw [beq_eq_false_iff_ne]; exact h2
    have hbig : r < 2147483648 := by omega
    cases hv : Lib.validRune r with
    | false =>
      go_wp2_with fail
      (with_reducible refine (Tryz.utf8_ValidRune _ _).mono ?_)
      rw [hv]
      rintro e w1 ⟨rfl, rfl⟩
      go_wp2_with fail
      go_ret
      exact ⟨rfl, Grows.refl _⟩
    | true =>
      obtain ⟨a, ha, l2, l4, hb⟩ := enc2 r h0 hv
      have hcv := run_rune_string r
      rw [ha] at hcv
      go_wp2_with fail
      (with_reducible refine (Tryz.utf8_ValidRune _ _).mono ?_)
      rw [hv]
      rintro e w1 ⟨rfl, hw⟩
      have hw := hw.symm
      subst hw
      rcases (show a.length = 2 ∨ a.length = 3 ∨ a.length = 4 by omega) with hl | hl | hl
      · have hb1 := hb hl
        have hbl := bt_lt a 1
        have hsz : (tx a).size = 2 := by simp [hl]
        have hx : (tx [38, 92]).extract 2 2 = tx [] := tx_from [38, 92] 2
        have hne : ((92 : Int) != (bt a 1 : Int)) = true := by simp; omega
        have hb92 : bt [38, 92] 1 = 92 := rfl
        go_wp2_with fail
        go_step3
        go_wp2_with fail
        go_loopg [9, 10, 11, 12] 2 (fun q v9 v10 _ _ wx => v9 = .int .i64 1 ∧ v10 = .int .i64 0 ∧ Grows w wx)
        case atStart => exact ⟨rfl, rfl, Grows.refl _⟩
        case round =>
          obtain ⟨rfl, rfl, hg⟩ := hrel
          have HG := Lib.hid hg
          clear hg
          go_upto_region 6 with fail
          go_step3
          go_upto_region 6 with fail
          go_quiet (fail)
          go_upto_region 7 with fail
          have w1' : IntKind.i64.wrap 2 = 2 := rfl
          have hib : ∀ c, Lib.indexByte (tx []).data.toList c = -1 := fun _ => rfl
          have hib2 : ∀ c, Lib.indexByte [] c = -1 := fun _ => rfl
          have hib3 : ∀ c, Lib.indexByte ByteArray.empty.data.toList c = -1 := fun _ => rfl
          go_quiet ((go_at_call 48; exact (Tryz.strings_IndexByte _ _ _).mono (fun _ _ h => ⟨h.1, _, h.2⟩)))
          go_wp2_with fail
          rw [Exit.noGoto_ret]
          go_wp2_with fail
          rw [Exit.noGoto_ret]
          go_ret
          exact ⟨rfl, HG.out.drewN _⟩
      · have hsz : (tx a).size = 3 := by simp [hl]
        go_wp2_with fail
        go_step3
        go_wp2_with fail
        go_loopg [9, 10, 11, 12] 1 (fun q v9 _ _ _ wx => v9 = .int .i64 2 ∧ wx = w)
        case atStart => exact ⟨rfl, rfl⟩
        case round =>
          obtain ⟨rfl, rfl⟩ := hrel
          go_wp2_with fail
          rw [Exit.noGoto_ret]
          go_ret
          exact ⟨rfl, Grows.refl _⟩
      · have hsz : (tx a).size = 4 := by simp [hl]
        go_wp2_with fail
        go_step3
        go_wp2_with fail
        go_loopg [9, 10, 11, 12] 1 (fun q v9 _ _ _ wx => v9 = .int .i64 3 ∧ wx = w)
        case atStart => exact ⟨rfl, rfl⟩
        case round =>
          obtain ⟨rfl, rfl⟩ := hrel
          go_wp2_with fail
          rw [Exit.noGoto_ret]
          go_ret
          exact ⟨rfl, Grows.refl _⟩
set_option maxRecDepth 3000 in
/-- Is '&' or a backslash among the bytes from f to i? -/
theorem decode_step (s : List UInt8) (i : Nat) (h : i < s.length) : (bt s i < 128 ∧ Utf8.decode (tx s) i = (bt s i, 1)) ∨
    (128 ≤ (Utf8.decode (tx s) i).1 ∧ (Utf8.decode (tx s) i).1 ≤ 1114111 ∧ 1 ≤ (Utf8.decode (tx s) i).2 ∧ i + (Utf8.decode (tx s) i).2 ≤ s.length ∧ ∀ j, i ≤ j → j < i + (Utf8.decode (tx s) i).2 → 128 ≤ bt s j) := by
  have hg : ∀ k, i + k < s.length → ((tx s).get! (i + k)).toNat = bt s (i + k) := fun k hk => by
    have h1 : i + k < (tx s).size := by simpa using hk
    have e : (tx s).get! (i + k) = (tx s)[i + k]'h1 := by
      show (tx s).data[i + k]! = _
      rw [getElem!_pos (tx s).data (i + k) h1]
      rfl
    rw [e]; exact tx_bt s _ h1
  have h0 := hg 0 (by omega)
  rw [Nat.add_zero] at h0
  have hsz : (tx s).size = s.length := by simp
  have hc := Lib.decodeN_conts ((tx s).size - i) ((tx s).get! i).toNat ((tx s).get! (i + 1)).toNat ((tx s).get! (i + 2)).toNat ((tx s).get! (i + 3)).toNat
  have hle := Lib.rune_le (tx s) i
  have hwp := Lib.width_pos (tx s) i
  rw [← Lib.decode_at] at hc
  obtain ⟨k2, k3, k4, k5⟩ := hc
  by_cases hb : bt s i < 128
  · refine .inl ⟨hb, ?_⟩
    rw [Lib.decode_at, h0]
    unfold Lib.decodeN
    rw [if_pos hb]
  · refine .inr ⟨?_, hle, hwp, by omega, fun j j1 j2 => ?_⟩
    · rw [Lib.decode_at, h0]
      unfold Lib.decodeN
      rw [if_neg hb]
      repeat' split
      all_goals (simp only; omega)
    · rcases (show j = i ∨ j = i + 1 ∨ j = i + 2 ∨ j = i + 3 by omega) with rfl | rfl | rfl | rfl
      · omega
      · have := hg 1 (by omega); have := k2 (by omega); omega
      · have := hg 2 (by omega); have := k3 (by omega); omega
      · have := hg 3 (by omega); have := k4 (by omega); omega
set_option maxRecDepth 3000 in
theorem contains_of (c : UInt8) : ([38, 92] : List UInt8).contains c = decide (c.toNat = 38 ∨ c.toNat = 92) := by
  rw [Bool.eq_iff_iff]
  simp only [List.contains_eq_mem, List.mem_cons, List.not_mem_nil, or_false, decide_eq_true_eq]
  exact ⟨fun h => h.elim (fun e => .inl (by rw [e]; rfl)) (fun e => .inr (by rw [e]; rfl)), fun h => h.elim (fun e => .inl (UInt8.toNat_inj.1 e)) (fun e => .inr (UInt8.toNat_inj.1 e))⟩
set_option maxRecDepth 3000 in
theorem noAny_step {s : List UInt8} {i k : Nat} (h : Lib.NoAny s [38, 92] i) (hk : ∀ j, i ≤ j → j < i + k → 128 ≤ bt s j) : Lib.NoAny s [38, 92] (i + k) := by
  intro j b hj hb
  rcases Nat.lt_or_ge j i with h1 | h1
  · exact h j b h1 hb
  · have h2 := hk j h1 hj
    obtain ⟨h3, h4⟩ := List.getElem?_eq_some_iff.1 hb
    rw [bt_get s j h3, h4] at h2
    rw [contains_of]
    simp
    omega
set_option maxRecDepth 3000 in
theorem indexByte_amp (c : UInt8) : (0 ≤ Lib.indexByte [38, 92] c) ↔ ([38, 92] : List UInt8).contains c = true := by
  have := Lib.contains_iff_indexByte [38, 92] c
  rw [this]; simp
set_option maxRecDepth 100000 in
set_option maxHeartbeats 2000000 in
theorem indexAny_short (s : List UInt8) (w : World) (h8 : s.length ≤ 8) : Calls Tryz.prog 13 #[.string (tx s), .string (tx [38, 92])] w fun e w' => e = .returned (.int .i64 (Lib.indexAny s [38, 92])) ∧ Grows w w' := by
  have hsz : (tx [38, 92]).size = 2 := by simp
  have hemp : ((tx [38, 92]).toList == ([] : List UInt8)) = false := by rw [ByteArray.toList_eq]; rfl
  have h8z : decide ((8 : Int) < (s.length : Int)) = false := by simp; omega
  go_enter Tryz.func13, Tryz.ntmps13
  go_wp2_with fail
  (with_reducible refine (Tryz.strings_shouldUseASCIISet _ _).mono ?_)
  rw [h8z]
  rintro e w1 ⟨rfl, hw⟩
  have hw := hw.symm
  subst hw
  go_wp2_with fail
  go_loopg [9, 10] s.length (fun q _ _ wx => ∃ i : Nat, q + i = s.length ∧ Lib.NoAny s [38, 92] i ∧ wx.heap[w.heap.size]? = some (.stringIter (tx s) i) ∧ Grows w wx)
  case atStart => exact ⟨0, by omega, Lib.NoAny.zero _ _, by simp [World.iter_heap], (Grows.refl _).alloc _⟩
  case round =>
    obtain ⟨i, hq, hno, hit, hg⟩ := hrel
    have HQ := Lib.hid hq
    have HN := Lib.hid hno
    have HG := Lib.hid hg
    have hil : i ≤ s.length := by omega
    clear hq hno hg
    by_cases h1 : i < s.length
    · have hnx := fun ty => Lib.run_next_any_at (P := Tryz.prog) wr w.heap.size (tx s) i ty hit (by simpa using h1)
      have hgi : Grows w (wr.iterAt w.heap.size (tx s) (i + (Utf8.decode (tx s) i).2)) := Grows.of_below (Lib.below_iterAt HG.out.below (Nat.le_refl _) _ _)
      have hii := Lib.iterAt_heap wr w.heap.size (tx s) i (i + (Utf8.decode (tx s) i).2) hit
      rcases decode_step s i h1 with ⟨hb, hd⟩ | ⟨d1, d2, d3, d4, d5⟩
      · rw [hd] at hnx hgi hii
        simp only [] at hnx hgi hii
        have HGI := Lib.hid hgi
        have HII := Lib.hid hii
        clear hgi hii hd
        go_wp2_with fail
        (with_reducible refine (Tryz.strings_IndexRune_ascii _ _ _ (by omega) (by omega)).mono ?_)
        rw [tx_data, bt_byte]
        have hgd : s[i]? = some (s.getD i 0) := by
          rw [List.getD_eq_getElem?_getD, List.getElem?_eq_getElem h1]; rfl
        have hcb := indexByte_amp (s.getD i 0)
        have HGD := Lib.hid hgd
        clear hgd
        generalize s.getD i 0 = c at *
        rintro e w1 ⟨rfl, hw⟩
        have hw := hw.symm
        subst hw
        cases hin : ([38, 92] : List UInt8).contains c with
        | true =>
          have hge : (0 : Int) ≤ Lib.indexByte [38, 92] c := hcb.2 hin
          have HIN := Lib.hid hin
          clear hcb hin
          go_wp2_with fail
          go_ret
          exact ⟨by rw [Lib.indexAny_hit HN.out HGD.out HIN.out]; rfl, HGI.out⟩
        | false =>
          have hge : ¬(0 : Int) ≤ Lib.indexByte [38, 92] c := fun h => by have := hcb.1 h; rw [hin] at this; cases this
          have HIN := Lib.hid hin
          clear hcb hin
          go_wp2_with fail
          go_roundg (gk - 1)
          case measure => have := HQ.out; omega
          case rel => exact ⟨i + 1, by have := HQ.out; omega, HN.out.succ HGD.out HIN.out, HII.out, HGI.out⟩
      · have HD := Lib.hid d5
        generalize (Utf8.decode (tx s) i).1 = r at *
        generalize (Utf8.decode (tx s) i).2 = k at *
        have HGI := Lib.hid hgi
        have HII := Lib.hid hii
        clear hgi hii d5
        go_wp2_with fail
        (with_reducible refine (indexRune_no r _ (by omega) (by omega)).mono ?_)
        rintro e w2 ⟨rfl, m2, rfl⟩
        go_wp2_with fail
        go_roundg (gk - k)
        case measure => have := HQ.out; omega
        case rel => exact ⟨i + k, by have := HQ.out; omega, noAny_step HN.out HD.out, by rw [heap_more _ _ _ (Array.getElem?_eq_some_iff.1 HII.out).1]; exact HII.out, HGI.out.more _⟩
    · have hnx := fun ty => Lib.run_next_end_at (P := Tryz.prog) wr w.heap.size (tx s) i ty hit (by simpa using h1)
      have hie : i = s.length := by omega
      subst hie
      go_wp2_with fail
      go_ret
      exact ⟨by rw [Lib.indexAny_none HN.out]; rfl, HG.out⟩
set_option maxRecDepth 3000 in
/-- strings.IndexAny of '&' and a backslash. -/
theorem indexAny_amp (s : List UInt8) (w : World) (hl : s.length ≤ 1000000) : Calls Tryz.prog 13 #[.string (tx s), .string (tx [38, 92])] w fun e w' => e = .returned (.int .i64 (Lib.indexAny s [38, 92])) ∧ Grows w w' := by
  by_cases h8 : s.length ≤ 8
  · exact indexAny_short s w h8
  · have h := Tryz.strings_IndexAny_long (fun w => by kernel_rfl) (tx s) (tx [38, 92]) w (by simp) (by simp; omega) (by simp; omega) (by simp) (by
      intro j b hb
      rw [tx_data] at hb
      have hm := List.mem_of_getElem? hb
      simp only [List.mem_cons, List.not_mem_nil, or_false] at hm
      rcases hm with rfl | rfl <;> decide)
    rw [tx_data, tx_data] at h
    exact h.mono fun e w' ⟨he, hw⟩ => ⟨he, by rw [hw]; exact ((Grows.refl _).alloc _).alloc _⟩
end Go.Proofs.YtkomggeionofbaaGreatDoor

/-
  Templates: the pieces of a replacement, in plain words.
-/
namespace Go.Proofs.YtkomggeionofbaaGreatDoor
open Go.RowKit

/-- A piece: a text, or a group. -/
inductive Tok where
  | text (l : List UInt8)
  | grp (n : Nat)
/-- How far the next '&' or backslash is. -/
def ampAt : List UInt8 → Nat
  | [] => 0
  | c :: s => if c.toNat = 38 ∨ c.toNat = 92 then 0 else ampAt s + 1
set_option maxRecDepth 3000 in
theorem ampAt_le (s : List UInt8) : ampAt s ≤ s.length := by
  induction s with
  | nil => simp [ampAt]
  | cons c s ih => unfold ampAt; split <;> simp <;> omega
set_option maxRecDepth 3000 in
theorem ampAt_index (s : List UInt8) : Lib.indexAny s [38, 92] = if ampAt s < s.length then (ampAt s : Int) else -1 := by
  induction s with
  | nil => rfl
  | cons c s ih =>
    unfold Lib.indexAny ampAt
    rw [contains_of]
    by_cases h : c.toNat = 38 ∨ c.toNat = 92
    · rw [if_pos (by simpa using h), if_pos h]; simp
    · rw [if_neg (by simpa using h), if_neg h, ih]
      by_cases h2 : ampAt s < s.length
      · have h3 : ((ampAt s : Int) == -1) = false := by rw [beq_eq_false_iff_ne]; omega
        have h4 : ampAt s + 1 < (c :: s).length := by rw [List.length_cons]; omega
        rw [if_pos h4]
        simp only [if_pos h2, h3, Bool.false_eq_true, if_false]
        simp
      · have h4 : ¬ampAt s + 1 < (c :: s).length := by rw [List.length_cons]; omega
        rw [if_neg h4]
        simp only [if_neg h2]
        rfl
/-- The piece of a byte behind a backslash. -/
def behindV (c : UInt8) : Tok := if 49 ≤ c.toNat ∧ c.toNat ≤ 57 then .grp (c.toNat - 48) else if c.toNat = 110 then .text [10] else .text [c]
/-- The pieces; none: it is no replacement. -/
def tokV : Nat → List UInt8 → Option (List Tok)
  | 0, _ => none
  | _ + 1, [] => some []
  | n + 1, c :: s =>
    if 0 < ampAt (c :: s) then (tokV n ((c :: s).drop (ampAt (c :: s)))).map fun l => .text ((c :: s).take (ampAt (c :: s))) :: l
    else if c.toNat = 38 then (tokV n s).map fun l => .grp 0 :: l
    else match s with
      | [] => none
      | d :: t => (tokV n t).map fun l => behindV d :: l
def toldV (g : Nat → List UInt8) : Tok → List UInt8
  | .text l => l
  | .grp n => g n
end Go.Proofs.YtkomggeionofbaaGreatDoor
