/-
  Several texts of the proof: IdxAny, TplPlain, CmdP.
-/
import Derived.Test.YtpdlmknbpggohaaDoorPk01
import Derived.Test.YtpdlmknbpggohaaDoorPk07
import Derived.Laws.RangeAny
import Derived.WalkMore
import Derived.Scope
import Derived.Lib.DecodeN
import Derived.Lib.SpaceUEq
import Derived.Lib.QuoteLoop
import Derived.Lib.TrimU
import Derived.Lib.OthersKept
import Derived.Deep.LoopGhost
import Derived.Test.YtpdlmknbpggohaaDoorPk11
/-
  strings.IndexAny of '&' and '\\', at every text (the shelf's contract leaves out short texts that are not ASCII).
-/
namespace Go.Proofs.YtpdlmknbpggohaaDoor
open Go.RowKit

attribute [local go_sem] tx_bt tx_from
set_option maxRecDepth 3000 in
theorem enc2 (r : Int) (h0 : 128 ≤ r) (h1 : Lib.validRune r = true) : ∃ a : List UInt8, Utf8.encode r = tx a ∧ 2 ≤ a.length ∧ a.length ≤ 4 ∧ (a.length = 2 → 128 ≤ bt a 1) := by
  have hv : Utf8.valid r = true := by
    unfold Lib.validRune at h1
    unfold Utf8.valid
    simp only [decide_eq_true_eq] at h1
    simp
    omega
  obtain ⟨n, rfl⟩ : ∃ n : Nat, r = n := ⟨r.toNat, by omega⟩
  unfold Utf8.encode
  rw [hv]
  simp only [if_true, Int.toNat_natCast]
  have hn : ¬n < 128 := by omega
  rw [if_neg hn]
  split
  · refine ⟨[UInt8.ofNat (0xC0 + n / 64), UInt8.ofNat (0x80 + n % 64)], rfl, by simp, by simp, fun _ => ?_⟩
    simp [bt]; omega
  · split
    · exact ⟨[UInt8.ofNat (0xE0 + n / 4096), UInt8.ofNat (0x80 + n / 64 % 64), UInt8.ofNat (0x80 + n % 64)], rfl, by simp, by simp, fun h => by simp at h⟩
    · exact ⟨[UInt8.ofNat (0xF0 + n / 262144), UInt8.ofNat (0x80 + n / 4096 % 64), UInt8.ofNat (0x80 + n / 64 % 64), UInt8.ofNat (0x80 + n % 64)], rfl, by simp, by simp, fun h => by simp at h⟩
set_option maxRecDepth 3000 in
theorem run_rune_string (r : Int) (w : World) : (convert 21 9 (.int .i32 r)).run Tryd.prog w = .ok (.string (Utf8.encode r)) w := by
  simp [convert, run_underlying Tryd.underlying21, run_underlying Tryd.underlying9, Conv.intToString]
set_option maxRecDepth 100000 in
set_option maxHeartbeats 2000000 in
theorem indexRune_no (r : Int) (w : World) (h0 : 128 ≤ r) (h1 : r ≤ 1114111) : Calls Tryd.prog 40 #[.string (tx [38, 92]), .int .i32 r] w fun e w' => e = .returned (.int .i64 (-1)) ∧ Grows w w' := by
  have c0 : (0 : Int) ≤ r := by omega
  have c1 : ¬r < 128 := by omega
  have ht : (tx [38, 92]).size = 2 := by simp
  go_enter Tryd.func40, Tryd.ntmps40
  by_cases h2 : r = 65533
  · subst h2
    go_wp2_with fail
    go_loopg [5, 6] 3 (fun q _ _ wx => ∃ i : Nat, q + i = 3 ∧ i ≤ 2 ∧ wx = w.iter (tx [38, 92]) i)
    case atStart => exact ⟨0, by omega, by omega, rfl⟩
    case round =>
      obtain ⟨i, hq, hi, rfl⟩ := hrel
      have HQ := Lib.hid hq
      clear hq
      rcases (show i = 0 ∨ i = 1 ∨ i = 2 by omega) with rfl | rfl | rfl
      · have hnx := fun ty => run_next_ascii (P := Tryd.prog) w (tx [38, 92]) 0 ty (by simp) (by rw [tx_bt]; decide)
        rw [show ((tx [38, 92])[0]'(by simp)).toNat = 38 from rfl] at hnx
        go_wp2_with fail
        go_roundg (gk - 1)
        case measure => have := HQ.out; omega
        case rel => exact ⟨1, by have := HQ.out; omega, by omega, rfl⟩
      · have hnx := fun ty => run_next_ascii (P := Tryd.prog) w (tx [38, 92]) 1 ty (by simp) (by rw [tx_bt]; decide)
        rw [show ((tx [38, 92])[1]'(by simp)).toNat = 92 from rfl] at hnx
        go_wp2_with fail
        go_roundg (gk - 1)
        case measure => have := HQ.out; omega
        case rel => exact ⟨2, by have := HQ.out; omega, by omega, rfl⟩
      · have hnx := fun ty => run_next_end (P := Tryd.prog) w (tx [38, 92]) 2 ty (by simp)
        go_wp2_with fail
        go_ret
        exact ⟨rfl, (Grows.refl _).alloc _⟩
  · have c2 : (r == 65533) = false := by rw [beq_eq_false_iff_ne]; exact h2
    have hbig : r < 2147483648 := by omega
    cases hv : Lib.validRune r with
    | false =>
      go_wp2_with fail
      (with_reducible refine (Tryd.utf8_ValidRune _ _).mono ?_)
      rw [hv]
      rintro e w1 ⟨rfl, rfl⟩
      go_wp2_with fail
      go_ret
      exact ⟨rfl, Grows.refl _⟩
    | true =>
      obtain ⟨a, ha, l2, l4, hb⟩ := enc2 r h0 hv
      have hcv := run_rune_string r
      rw [ha] at hcv
      go_wp2_with fail
      (with_reducible refine (Tryd.utf8_ValidRune _ _).mono ?_)
      rw [hv]
      rintro e w1 ⟨rfl, hw⟩
      have hw := hw.symm
      subst hw
      rcases (show a.length = 2 ∨ a.length = 3 ∨ a.length = 4 by omega) with hl | hl | hl
      · have hb1 := hb hl
        have hbl := bt_lt a 1
        have hsz : (tx a).size = 2 := by simp [hl]
        have hx : (tx [38, 92]).extract 2 2 = tx [] := tx_from [38, 92] 2
        have hne : ((92 : Int) != (bt a 1 : Int)) = true := by simp; omega
        have hb92 : bt [38, 92] 1 = 92 := rfl
        go_wp2_with fail
        go_step3
        go_wp2_with fail
        go_loopg [9, 10, 11, 12] 2 (fun q v9 v10 _ _ wx => v9 = .int .i64 1 ∧ v10 = .int .i64 0 ∧ Grows w wx)
        case atStart => exact ⟨rfl, rfl, Grows.refl _⟩
        case round =>
          obtain ⟨rfl, rfl, hg⟩ := hrel
          have HG := Lib.hid hg
          clear hg
          go_upto_region 6 with fail
          go_step3
          go_upto_region 6 with fail
          go_quiet (fail)
          go_upto_region 7 with fail
          have w1' : IntKind.i64.wrap 2 = 2 := rfl
          have hib : ∀ c, Lib.indexByte (tx []).data.toList c = -1 := fun _ => rfl
          have hib2 : ∀ c, Lib.indexByte [] c = -1 := fun _ => rfl
          have hib3 : ∀ c, Lib.indexByte ByteArray.empty.data.toList c = -1 := fun _ => rfl
          go_quiet ((go_at_call 58; exact (Tryd.strings_IndexByte _ _ _).mono (fun _ _ h => ⟨h.1, _, h.2⟩)))
          go_wp2_with fail
          rw [Exit.noGoto_ret]
          go_wp2_with fail
          rw [Exit.noGoto_ret]
          go_ret
          exact ⟨rfl, HG.out.drewN _⟩
      · have hsz : (tx a).size = 3 := by simp [hl]
        go_wp2_with fail
        go_step3
        go_wp2_with fail
        go_loopg [9, 10, 11, 12] 1 (fun q v9 _ _ _ wx => v9 = .int .i64 2 ∧ wx = w)
        case atStart => exact ⟨rfl, rfl⟩
        case round =>
          obtain ⟨rfl, rfl⟩ := hrel
          go_wp2_with fail
          rw [Exit.noGoto_ret]
          go_ret
          exact ⟨rfl, Grows.refl _⟩
      · have hsz : (tx a).size = 4 := by simp [hl]
        go_wp2_with fail
        go_step3
        go_wp2_with fail
        go_loopg [9, 10, 11, 12] 1 (fun q v9 _ _ _ wx => v9 = .int .i64 3 ∧ wx = w)
        case atStart => exact ⟨rfl, rfl⟩
        case round =>
          obtain ⟨rfl, rfl⟩ := hrel
          go_wp2_with fail
          rw [Exit.noGoto_ret]
          go_ret
          exact ⟨rfl, Grows.refl _⟩
set_option maxRecDepth 3000 in
/-- Is '&' or a backslash among the bytes from f to i? -/
theorem decode_step (s : List UInt8) (i : Nat) (h : i < s.length) : (bt s i < 128 ∧ Utf8.decode (tx s) i = (bt s i, 1)) ∨
    (128 ≤ (Utf8.decode (tx s) i).1 ∧ (Utf8.decode (tx s) i).1 ≤ 1114111 ∧ 1 ≤ (Utf8.decode (tx s) i).2 ∧ i + (Utf8.decode (tx s) i).2 ≤ s.length ∧ ∀ j, i ≤ j → j < i + (Utf8.decode (tx s) i).2 → 128 ≤ bt s j) := by
  have hg : ∀ k, i + k < s.length → ((tx s).get! (i + k)).toNat = bt s (i + k) := fun k hk => by
    have h1 : i + k < (tx s).size := by simpa using hk
    have e : (tx s).get! (i + k) = (tx s)[i + k]'h1 := by
      show (tx s).data[i + k]! = _
      rw [getElem!_pos (tx s).data (i + k) h1]
      rfl
    rw [e]; exact tx_bt s _ h1
  have h0 := hg 0 (by omega)
  rw [Nat.add_zero] at h0
  have hsz : (tx s).size = s.length := by simp
  have hc := Lib.decodeN_conts ((tx s).size - i) ((tx s).get! i).toNat ((tx s).get! (i + 1)).toNat ((tx s).get! (i + 2)).toNat ((tx s).get! (i + 3)).toNat
  have hle := Lib.rune_le (tx s) i
  have hwp := Lib.width_pos (tx s) i
  rw [← Lib.decode_at] at hc
  obtain ⟨k2, k3, k4, k5⟩ := hc
  by_cases hb : bt s i < 128
  · refine .inl ⟨hb, ?_⟩
    rw [Lib.decode_at, h0]
    unfold Lib.decodeN
    rw [if_pos hb]
  · refine .inr ⟨?_, hle, hwp, by omega, fun j j1 j2 => ?_⟩
    · rw [Lib.decode_at, h0]
      unfold Lib.decodeN
      rw [if_neg hb]
      repeat' split
      all_goals (simp only; omega)
    · rcases (show j = i ∨ j = i + 1 ∨ j = i + 2 ∨ j = i + 3 by omega) with rfl | rfl | rfl | rfl
      · omega
      · have := hg 1 (by omega); have := k2 (by omega); omega
      · have := hg 2 (by omega); have := k3 (by omega); omega
      · have := hg 3 (by omega); have := k4 (by omega); omega
set_option maxRecDepth 3000 in
theorem contains_of (c : UInt8) : ([38, 92] : List UInt8).contains c = decide (c.toNat = 38 ∨ c.toNat = 92) := by
  rw [Bool.eq_iff_iff]
  simp only [List.contains_eq_mem, List.mem_cons, List.not_mem_nil, or_false, decide_eq_true_eq]
  exact ⟨fun h => h.elim (fun e => .inl (by rw [e]; rfl)) (fun e => .inr (by rw [e]; rfl)), fun h => h.elim (fun e => .inl (UInt8.toNat_inj.1 e)) (fun e => .inr (UInt8.toNat_inj.1 e))⟩
set_option maxRecDepth 3000 in
theorem noAny_step {s : List UInt8} {i k : Nat} (h : Lib.NoAny s [38, 92] i) (hk : ∀ j, i ≤ j → j < i + k → 128 ≤ bt s j) : Lib.NoAny s [38, 92] (i + k) := by
  intro j b hj hb
  rcases Nat.lt_or_ge j i with h1 | h1
  · exact h j b h1 hb
  · have h2 := hk j h1 hj
    obtain ⟨h3, h4⟩ := List.getElem?_eq_some_iff.1 hb
    rw [bt_get s j h3, h4] at h2
    rw [contains_of]
    simp
    omega
set_option maxRecDepth 3000 in
theorem indexByte_amp (c : UInt8) : (0 ≤ Lib.indexByte [38, 92] c) ↔ ([38, 92] : List UInt8).contains c = true := by
  have := Lib.contains_iff_indexByte [38, 92] c
  rw [this]; simp
set_option maxRecDepth 100000 in
set_option maxHeartbeats 2000000 in
theorem indexAny_short (s : List UInt8) (w : World) (h8 : s.length ≤ 8) : Calls Tryd.prog 25 #[.string (tx s), .string (tx [38, 92])] w fun e w' => e = .returned (.int .i64 (Lib.indexAny s [38, 92])) ∧ Grows w w' := by
  have hsz : (tx [38, 92]).size = 2 := by simp
  have hemp : ((tx [38, 92]).toList == ([] : List UInt8)) = false := by rw [ByteArray.toList_eq]; rfl
  have h8z : decide ((8 : Int) < (s.length : Int)) = false := by simp; omega
  go_enter Tryd.func25, Tryd.ntmps25
  go_wp2_with fail
  (with_reducible refine (Tryd.strings_shouldUseASCIISet _ _).mono ?_)
  rw [h8z]
  rintro e w1 ⟨rfl, hw⟩
  have hw := hw.symm
  subst hw
  go_wp2_with fail
  go_loopg [9, 10] s.length (fun q _ _ wx => ∃ i : Nat, q + i = s.length ∧ Lib.NoAny s [38, 92] i ∧ wx.heap[w.heap.size]? = some (.stringIter (tx s) i) ∧ Grows w wx)
  case atStart => exact ⟨0, by omega, Lib.NoAny.zero _ _, by simp [World.iter_heap], (Grows.refl _).alloc _⟩
  case round =>
    obtain ⟨i, hq, hno, hit, hg⟩ := hrel
    have HQ := Lib.hid hq
    have HN := Lib.hid hno
    have HG := Lib.hid hg
    have hil : i ≤ s.length := by omega
    clear hq hno hg
    by_cases h1 : i < s.length
    · have hnx := fun ty => Lib.run_next_any_at (P := Tryd.prog) wr w.heap.size (tx s) i ty hit (by simpa using h1)
      have hgi : Grows w (wr.iterAt w.heap.size (tx s) (i + (Utf8.decode (tx s) i).2)) := Grows.of_below (Lib.below_iterAt HG.out.below (Nat.le_refl _) _ _)
      have hii := Lib.iterAt_heap wr w.heap.size (tx s) i (i + (Utf8.decode (tx s) i).2) hit
      rcases decode_step s i h1 with ⟨hb, hd⟩ | ⟨d1, d2, d3, d4, d5⟩
      · rw [hd] at hnx hgi hii
        simp only [] at hnx hgi hii
        have HGI := Lib.hid hgi
        have HII := Lib.hid hii
        clear hgi hii hd
        go_wp2_with fail
        (with_reducible refine (Tryd.strings_IndexRune_ascii _ _ _ (by omega) (by omega)).mono ?_)
        rw [tx_data, bt_byte]
        have hgd : s[i]? = some (s.getD i 0) := by
          rw [List.getD_eq_getElem?_getD, List.getElem?_eq_getElem h1]; rfl
        have hcb := indexByte_amp (s.getD i 0)
        have HGD := Lib.hid hgd
        clear hgd
        generalize s.getD i 0 = c at *
        rintro e w1 ⟨rfl, hw⟩
        have hw := hw.symm
        subst hw
        cases hin : ([38, 92] : List UInt8).contains c with
        | true =>
          have hge : (0 : Int) ≤ Lib.indexByte [38, 92] c := hcb.2 hin
          have HIN := Lib.hid hin
          clear hcb hin
          go_wp2_with fail
          go_ret
          exact ⟨by rw [Lib.indexAny_hit HN.out HGD.out HIN.out]; rfl, HGI.out⟩
        | false =>
          have hge : ¬(0 : Int) ≤ Lib.indexByte [38, 92] c := fun h => by have := hcb.1 h; rw [hin] at this; cases this
          have HIN := Lib.hid hin
          clear hcb hin
          go_wp2_with fail
          go_roundg (gk - 1)
          case measure => have := HQ.out; omega
          case rel => exact ⟨i + 1, by have := HQ.out; omega, HN.out.succ HGD.out HIN.out, HII.out, HGI.out⟩
      · have HD := Lib.hid d5
        generalize (Utf8.decode (tx s) i).1 = r at *
        generalize (Utf8.decode (tx s) i).2 = k at *
        have HGI := Lib.hid hgi
        have HII := Lib.hid hii
        clear hgi hii d5
        go_wp2_with fail
        (with_reducible refine (indexRune_no r _ (by omega) (by omega)).mono ?_)
        rintro e w2 ⟨rfl, m2, rfl⟩
        go_wp2_with fail
        go_roundg (gk - k)
        case measure => have := HQ.out; omega
        case rel => exact ⟨i + k, by have := HQ.out; omega, noAny_step HN.out HD.out, by rw [heap_more _ _ _ (Array.getElem?_eq_some_iff.1 HII.out).1]; exact HII.out, HGI.out.more _⟩
    · have hnx := fun ty => Lib.run_next_end_at (P := Tryd.prog) wr w.heap.size (tx s) i ty hit (by simpa using h1)
      have hie : i = s.length := by omega
      subst hie
      go_wp2_with fail
      go_ret
      exact ⟨by rw [Lib.indexAny_none HN.out]; rfl, HG.out⟩
set_option maxRecDepth 3000 in
/-- strings.IndexAny of '&' and a backslash. -/
theorem indexAny_amp (s : List UInt8) (w : World) (hl : s.length ≤ 1000000) : Calls Tryd.prog 25 #[.string (tx s), .string (tx [38, 92])] w fun e w' => e = .returned (.int .i64 (Lib.indexAny s [38, 92])) ∧ Grows w w' := by
  by_cases h8 : s.length ≤ 8
  · exact indexAny_short s w h8
  · have h := Tryd.strings_IndexAny_long (fun w => by kernel_rfl) (tx s) (tx [38, 92]) w (by simp) (by simp; omega) (by simp; omega) (by simp) (by
      intro j b hb
      rw [tx_data] at hb
      have hm := List.mem_of_getElem? hb
      simp only [List.mem_cons, List.not_mem_nil, or_false] at hm
      rcases hm with rfl | rfl <;> decide)
    rw [tx_data, tx_data] at h
    exact h.mono fun e w' ⟨he, hw⟩ => ⟨he, by rw [hw]; exact ((Grows.refl _).alloc _).alloc _⟩
end Go.Proofs.YtpdlmknbpggohaaDoor

/-
  Templates: the pieces of a replacement, in plain words.
-/
namespace Go.Proofs.YtpdlmknbpggohaaDoor
open Go.RowKit

/-- A piece: a text, or a group. -/
inductive Tok where
  | text (l : List UInt8)
  | grp (n : Nat)
/-- How far the next '&' or backslash is. -/
def ampAt : List UInt8 → Nat
  | [] => 0
  | c :: s => if c.toNat = 38 ∨ c.toNat = 92 then 0 else ampAt s + 1
set_option maxRecDepth 3000 in
theorem ampAt_le (s : List UInt8) : ampAt s ≤ s.length := by
  induction s with
  | nil => simp [ampAt]
  | cons c s ih => unfold ampAt; split <;> simp <;> omega
set_option maxRecDepth 3000 in
theorem ampAt_index (s : List UInt8) : Lib.indexAny s [38, 92] = if ampAt s < s.length then (ampAt s : Int) else -1 := by
  induction s with
  | nil => rfl
  | cons c s ih =>
    unfold Lib.indexAny ampAt
    rw [contains_of]
    by_cases h : c.toNat = 38 ∨ c.toNat = 92
    · rw [if_pos (by simpa using h), if_pos h]; simp
    · rw [if_neg (by simpa using h), if_neg h, ih]
      by_cases h2 : ampAt s < s.length
      · have h3 : ((ampAt s : Int) == -1) = false := by rw [beq_eq_false_iff_ne]; omega
        have h4 : ampAt s + 1 < (c :: s).length := by rw [List.length_cons]; omega
        rw [if_pos h4]
        simp only [if_pos h2, h3, Bool.false_eq_true, if_false]
        simp
      · have h4 : ¬ampAt s + 1 < (c :: s).length := by rw [List.length_cons]; omega
        rw [if_neg h4]
        simp only [if_neg h2]
        rfl
/-- The piece of a byte behind a backslash. -/
def behindV (c : UInt8) : Tok := if 49 ≤ c.toNat ∧ c.toNat ≤ 57 then .grp (c.toNat - 48) else if c.toNat = 110 then .text [10] else .text [c]
/-- The pieces; none: it is no replacement. -/
def tokV : Nat → List UInt8 → Option (List Tok)
  | 0, _ => none
  | _ + 1, [] => some []
  | n + 1, c :: s =>
    if 0 < ampAt (c :: s) then (tokV n ((c :: s).drop (ampAt (c :: s)))).map fun l => .text ((c :: s).take (ampAt (c :: s))) :: l
    else if c.toNat = 38 then (tokV n s).map fun l => .grp 0 :: l
    else match s with
      | [] => none
      | d :: t => (tokV n t).map fun l => behindV d :: l
/-- Is a text a replacement? -/
def chkB : List UInt8 → Bool
  | [] => true
  | [c] => decide (c.toNat ≠ 92)
  | c :: d :: t => if c.toNat = 92 then chkB t else chkB (d :: t)
/-- The greatest group. -/
def mostB : List UInt8 → Nat
  | [] => 0
  | [_] => 0
  | c :: d :: t => if c.toNat = 92 then max (if 49 ≤ d.toNat ∧ d.toNat ≤ 57 then d.toNat - 48 else 0) (mostB t) else mostB (d :: t)
def mostT : List Tok → Nat
  | [] => 0
  | .grp n :: l => max n (mostT l)
  | .text _ :: l => mostT l
def toldV (g : Nat → List UInt8) : Tok → List UInt8
  | .text l => l
  | .grp n => g n
/-- The expansion, byte by byte. -/
def expB (g : Nat → List UInt8) : List UInt8 → List UInt8
  | [] => []
  | [c] => if c.toNat = 38 then g 0 else [c]
  | c :: d :: t => if c.toNat = 38 then g 0 ++ expB g (d :: t) else if c.toNat = 92 then toldV g (behindV d) ++ expB g t else c :: expB g (d :: t)
set_option maxRecDepth 3000 in
theorem chk_text (l : List UInt8) : ∀ (r : List UInt8), (∀ c ∈ l, c.toNat ≠ 38 ∧ c.toNat ≠ 92) → chkB (l ++ r) = chkB r := by
  induction l with
  | nil => intro r _; rfl
  | cons c l ih =>
    intro r h
    have hc := (h c (by simp)).2
    have hi := ih r (fun x hx => h x (by simp [hx]))
    rw [List.cons_append]
    cases hl : l ++ r with
    | nil => rw [hl] at hi; rw [← hi]; simp [chkB, hc]
    | cons d t =>
      rw [hl] at hi
      conv => lhs; unfold chkB; rw [if_neg hc]
      exact hi
set_option maxRecDepth 3000 in
theorem most_text (l : List UInt8) : ∀ (r : List UInt8), (∀ c ∈ l, c.toNat ≠ 38 ∧ c.toNat ≠ 92) → mostB (l ++ r) = mostB r := by
  induction l with
  | nil => intro r _; rfl
  | cons c l ih =>
    intro r h
    have hc := (h c (by simp)).2
    have hi := ih r (fun x hx => h x (by simp [hx]))
    rw [List.cons_append]
    cases hl : l ++ r with
    | nil => rw [hl] at hi; rw [← hi]; simp [mostB]
    | cons d t =>
      rw [hl] at hi
      conv => lhs; unfold mostB; rw [if_neg hc]
      exact hi
set_option maxRecDepth 3000 in
theorem exp_text (g : Nat → List UInt8) (l : List UInt8) : ∀ (r : List UInt8), (∀ c ∈ l, c.toNat ≠ 38 ∧ c.toNat ≠ 92) → expB g (l ++ r) = l ++ expB g r := by
  induction l with
  | nil => intro r _; rfl
  | cons c l ih =>
    intro r h
    have hc := h c (by simp)
    have hi := ih r (fun x hx => h x (by simp [hx]))
    rw [List.cons_append]
    cases hl : l ++ r with
    | nil =>
      have h1 : l = [] := (List.append_eq_nil_iff.1 hl).1
      have h2 : r = [] := (List.append_eq_nil_iff.1 hl).2
      subst h1 h2
      simp [expB, hc.1]
    | cons d t =>
      rw [hl] at hi
      conv => lhs; unfold expB; rw [if_neg hc.1, if_neg hc.2, hi]
      rfl
set_option maxRecDepth 3000 in
theorem ampAt_text (s : List UInt8) : ∀ c ∈ s.take (ampAt s), c.toNat ≠ 38 ∧ c.toNat ≠ 92 := by
  induction s with
  | nil => intro c hc; simp at hc
  | cons a s ih =>
    intro c hc
    unfold ampAt at hc
    split at hc
    · simp at hc
    · rename_i h
      rw [List.take_succ_cons, List.mem_cons] at hc
      rcases hc with rfl | hc
      · omega
      · exact ih c hc
set_option maxRecDepth 3000 in
/-- What the pieces say is what the document says byte by byte. -/
theorem tokV_law (n : Nat) : ∀ (s : List UInt8), s.length < n → match tokV n s with
    | none => chkB s = false
    | some l => chkB s = true ∧ mostT l = mostB s ∧ ∀ g, (l.map (toldV g)).flatten = expB g s := by
  induction n with
  | zero => intro s h; omega
  | succ n ih =>
    intro s hs
    cases s with
    | nil => exact ⟨rfl, rfl, fun g => rfl⟩
    | cons c s =>
      unfold tokV
      by_cases h1 : 0 < ampAt (c :: s)
      · rw [if_pos h1]
        have hle := ampAt_le (c :: s)
        have ht := ampAt_text (c :: s)
        have hi := ih ((c :: s).drop (ampAt (c :: s))) (by rw [List.length_drop]; simp at hs ⊢; omega)
        have hsp : c :: s = (c :: s).take (ampAt (c :: s)) ++ (c :: s).drop (ampAt (c :: s)) := (List.take_append_drop _ _).symm
        generalize (c :: s).take (ampAt (c :: s)) = u at *
        generalize (c :: s).drop (ampAt (c :: s)) = v at *
        rw [hsp]
        cases hv : tokV n v with
        | none => rw [hv] at hi; simp only [Option.map_none]; rw [chk_text u v ht]; exact hi
        | some l =>
          rw [hv] at hi
          simp only [Option.map_some]
          rw [chk_text u v ht, most_text u v ht]
          refine ⟨hi.1, hi.2.1, fun g => ?_⟩
          rw [exp_text g u v ht, List.map_cons, List.flatten_cons, hi.2.2 g]; rfl
      · rw [if_neg h1]
        have hc : c.toNat = 38 ∨ c.toNat = 92 := by
          unfold ampAt at h1
          split at h1
          · assumption
          · omega
        by_cases h2 : c.toNat = 38
        · rw [if_pos h2]
          have hi := ih s (by simp at hs; omega)
          have e1 : chkB (c :: s) = chkB s := by
            cases s with
            | nil => simp [chkB, h2]
            | cons d t => conv => lhs; unfold chkB; rw [if_neg (by omega)]
          have e2 : mostB (c :: s) = mostB s := by
            cases s with
            | nil => rfl
            | cons d t => conv => lhs; unfold mostB; rw [if_neg (by omega)]
          have e3 : ∀ g, expB g (c :: s) = g 0 ++ expB g s := fun g => by
            cases s with
            | nil => simp [expB, h2]
            | cons d t => conv => lhs; unfold expB; rw [if_pos h2]
          cases hv : tokV n s with
          | none => rw [hv] at hi; simp only [Option.map_none]; rw [e1]; exact hi
          | some l =>
            rw [hv] at hi
            simp only [Option.map_some]
            rw [e1, e2]
            refine ⟨hi.1, by rw [← hi.2.1]; simp [mostT], fun g => ?_⟩
            rw [e3, List.map_cons, List.flatten_cons, hi.2.2 g]; rfl
        · rw [if_neg h2]
          have h3 : c.toNat = 92 := by omega
          cases s with
          | nil => simp only []; simp [chkB, h3]
          | cons d t =>
            simp only []
            have hi := ih t (by simp at hs; omega)
            have e1 : chkB (c :: d :: t) = chkB t := by conv => lhs; unfold chkB; rw [if_pos h3]
            have e2 : mostB (c :: d :: t) = max (if 49 ≤ d.toNat ∧ d.toNat ≤ 57 then d.toNat - 48 else 0) (mostB t) := by conv => lhs; unfold mostB; rw [if_pos h3]
            have e3 : ∀ g, expB g (c :: d :: t) = toldV g (behindV d) ++ expB g t := fun g => by conv => lhs; unfold expB; rw [if_neg h2, if_pos h3]
            cases hv : tokV n t with
            | none => rw [hv] at hi; simp only [Option.map_none]; rw [e1]; exact hi
            | some l =>
              rw [hv] at hi
              simp only [Option.map_some]
              rw [e1, e2]
              refine ⟨hi.1, ?_, fun g => ?_⟩
              · unfold behindV
                split
                · simp [mostT, hi.2.1]
                · split <;> simp [mostT, hi.2.1]
              · rw [e3, List.map_cons, List.flatten_cons, hi.2.2 g]
end Go.Proofs.YtpdlmknbpggohaaDoor

/-
  Command lines in plain words.
-/
namespace Go.Proofs.YtpdlmknbpggohaaDoor

/-- A replacement's pieces. -/
def tokL (s : List UInt8) : Option (List Tok) := tokV (s.length + 1) s
/-- A command. -/
structure Cm where
  list : List Adr
  semi : List Bool
  name : Nat
  dest : Adr
  letter : Nat
  re : List UInt8
  repl : List UInt8
  all : Bool
  nth : Nat
  sub : List UInt8
  name2 : List UInt8
  print : Nat
def cm0 (us : List Adr) (ss : List Bool) : Cm := ⟨us, ss, 0, adr0, 0, [], [], false, 0, [], [], 0⟩
def isPln (c : UInt8) : Bool := c.toNat == 112 || c.toNat == 108 || c.toNat == 110
def sufL (x : Cm) : List UInt8 → Except Nat Cm
  | [] => .ok x
  | [c] => if isPln c then .ok { x with print := c.toNat } else .error 211
  | _ => .error 211
/-- Digits, up to a thousand. -/
def thouL : Nat → List UInt8 → Nat × List UInt8
  | n, [] => (n, [])
  | n, c :: l => if isDig c = true ∧ n < 1000 then thouL (10 * n + (c.toNat - 48)) l else (n, c :: l)
set_option maxRecDepth 3000 in
theorem thou_le : ∀ (l : List UInt8) (n : Nat), (thouL n l).2.length ≤ l.length
  | [], _ => Nat.le_refl _
  | c :: l, n => by
    unfold thouL
    split
    · exact Nat.le_succ_of_le (thou_le l _)
    · exact Nat.le_refl _
def flagL : Nat → Bool → Cm → List UInt8 → Except Nat Cm
  | 0, _, _, _ => .error 211
  | _ + 1, _, x, [] => .ok x
  | k + 1, said, x, c :: l =>
    if c.toNat = 103 ∧ x.all = false then flagL k said { x with all := true } l
    else if isPln c = true ∧ x.print = 0 then flagL k said { x with print := c.toNat } l
    else if 49 ≤ c.toNat ∧ c.toNat ≤ 57 ∧ said = false then flagL k true { x with nth := (thouL 0 (c :: l)).1 } (thouL 0 (c :: l)).2
    else .error 211
/-- A delimited pattern, what is behind it, whether its end was there. -/
def patL (s : List UInt8) : Except Nat (List UInt8 × List UInt8 × Bool) :=
  match s with
  | [] => .error 90
  | c :: l =>
    if c.toNat = 32 ∨ c.toNat = 92 then .error 90
    else if (delimL c l).1 ≠ [] ∧ patV (delimL c l).1 = none then .error 90
    else .ok (delimL c l)
def groupsL (re : List UInt8) : Nat := match patV re with
  | none => 0
  | some y => y.2.groups
def substL (x : Cm) (s : List UInt8) : Except Nat Cm :=
  match patL s with
  | .error e => .error e
  | .ok p =>
    if p.2.2 = false then .error 90
    else
      match tokL (delimL (s.headD 0) p.2.1).1 with
      | none => .error 110
      | some t =>
        if p.1 ≠ [] ∧ groupsL p.1 < mostT t then .error 110
        else
          let y := { x with re := p.1, repl := (delimL (s.headD 0) p.2.1).1, nth := 1 }
          if (delimL (s.headD 0) p.2.1).2.2 = false then .ok { y with print := 112 }
          else flagL ((delimL (s.headD 0) p.2.1).2.1.length + 1) false y (delimL (s.headD 0) p.2.1).2.1
def globL (x : Cm) (s : List UInt8) : Except Nat Cm :=
  match patL s with
  | .error e => .error e
  | .ok p => .ok { x with re := p.1, sub := if p.2.2 = false ∨ skipL p.2.1 = [] then [112] else p.2.1 }
def destL (x : Cm) (s : List UInt8) : Except Nat Cm :=
  match oneL s with
  | none => .error 200
  | some y => sufL { x with dest := y.1 } y.2
def letL (x : Cm) (must : Bool) (s : List UInt8) : Except Nat Cm :=
  match skipL s with
  | [] => if must then .error 211 else .ok x
  | c :: l => if (97 ≤ c.toNat ∧ c.toNat ≤ 122) ∨ (must = false ∧ 65 ≤ c.toNat ∧ c.toNat ≤ 90) then sufL { x with letter := c.toNat } l else .error 211
def countL (x : Cm) (s : List UInt8) : Except Nat Cm := if s.all isDig = true ∧ s.length ≤ 4 then .ok { x with name2 := s } else .error 211
/-- A file's name. -/
def asksL (s : List UInt8) : Except Nat (List UInt8) :=
  if s = [] then .ok []
  else if (skipL s).length = s.length then .error 211
  else if (skipL s).any isBl = true ∨ (skipL s).head? = some 33 then .error 210
  else .ok (skipL s)
def namedL (x0 : Cm) (c : Nat) (s : List UInt8) : Except Nat Cm :=
  let x := { x0 with name := c }
  if c ∈ [97, 99, 105, 100, 106, 108, 110, 112, 117, 61, 62, 60] then sufL x s
  else if c = 107 then letL x true s
  else if c = 109 ∨ c = 116 then destL x s
  else if c = 115 then substL x s
  else if c = 103 ∨ c = 118 then globL x s
  else if c = 122 then countL x s
  else if c = 104 ∨ c = 113 ∨ c = 81 then (if s = [] then .ok x else .error 211)
  else if c ∈ [101, 69, 102, 114, 119, 87] then (match asksL s with
    | .error e => .error e
    | .ok n => .ok { x with name2 := n })
  else .error 210
/-- What stands behind a range. -/
def restL (x : Cm) (l : List UInt8) : Except Nat Cm :=
  match skipL l with
  | [] => .ok x
  | c :: s =>
    if ahead [121, 97] (c :: s) then letL { x with name := 89 } false (s.drop 1)
    else if ahead [112, 117] (c :: s) then letL { x with name := 80 } false (s.drop 1)
    else namedL x c.toNat s
def cmdL (l : List UInt8) : Except Nat Cm :=
  match rangeL l with
  | none => .error 200
  | some r => restL (cm0 r.1 r.2.1) r.2.2
end Go.Proofs.YtpdlmknbpggohaaDoor
