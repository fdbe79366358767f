/-
  Several texts of the proof: AddrW, Builder, BuilderB, AddrD.
-/
import Derived.Test.YtpdlmknbpggohaaDoorPk11
import Derived.Test.YtpdlmknbpggohaaDoorPk01
import Derived.Deep.LoopGhost
import Derived.Test.YtpdlmknbpggohaaDoorPk00
import Derived.Test.YtpdlmknbpggohaaDoorPk07
import Derived.Lib.Builder
import Derived.Lib.AppendStr
import Derived.Lib.UnsafeStr
/-
  Addresses: blanks, a digit, a number, walked.
-/
namespace Go.Proofs.YtpdlmknbpggohaaDoor
open Go.RowKit

attribute [local go_sem] tx_bt tx_from
/-- A place of a text, and what stands there. -/
structure At (s : List UInt8) (k : Nat) (l : List UInt8) : Prop where
  le : k ≤ s.length
  eq : s.drop k = l
section
variable {s l r : List UInt8} {k : Nat} {c : UInt8}
set_option maxRecDepth 3000 in
theorem At.len (h : At s k l) : l.length = s.length - k := by rw [← h.eq, List.length_drop]
set_option maxRecDepth 3000 in
theorem At.lt (h : At s k (c :: r)) : k < s.length := by have := h.len; simp at this; omega
set_option maxRecDepth 3000 in
theorem At.bt (h : At s k (c :: r)) : bt s k = c.toNat := by rw [show k = k + 0 by omega, ← bt_drop, h.eq]; simp
set_option maxRecDepth 3000 in
theorem At.next (h : At s k (c :: r)) : At s (k + 1) r := ⟨h.lt, by rw [← List.drop_drop, h.eq]; rfl⟩
set_option maxRecDepth 3000 in
theorem At.nil (h : At s k []) : k = s.length := by have := h.len; have := h.le; simp at *; omega
set_option maxRecDepth 3000 in
theorem At.start (s : List UInt8) : At s 0 s := ⟨Nat.zero_le _, rfl⟩
set_option maxRecDepth 3000 in
theorem At.end_ (s : List UInt8) : At s s.length [] := ⟨Nat.le_refl _, List.drop_length⟩
set_option maxRecDepth 3000 in
/-- A suffix stands somewhere. -/
theorem At.suffix (h : At s k l) {t : List UInt8} (ht : t <:+ l) : ∃ j, At s j t ∧ k ≤ j := by
  obtain ⟨e, hl⟩ := suffix_drop ht
  have h1 := h.len
  have h2 := h.le
  exact ⟨k + (l.length - t.length), ⟨by omega, by rw [← List.drop_drop, h.eq]; exact e.symm⟩, by omega⟩
end
set_option maxRecDepth 3000 in
set_option maxHeartbeats 1000000 in
theorem blanks_any {s l : List UInt8} {k : Nat} (h : At s k l) (hl : s.length ≤ 100000) (w : World) :
    Calls Tryd.prog 19 #[.string (tx s), .int .i64 k] w fun e w' => (∃ j : Nat, e = .returned (.int .i64 j) ∧ At s j (skipL l) ∧ k ≤ j) ∧ w' = w := by
  have H := Lib.hid h
  clear h
  go_enter Tryd.func19, Tryd.ntmps19
  go_wp2_with fail
  go_loopg [1] l.length (fun q v1 wr => ∃ (j : Nat) (t : List UInt8), q = t.length ∧ v1 = .int .i64 j ∧ At s j t ∧ skipL t = skipL l ∧ k ≤ j ∧ wr = w)
  case atStart => exact ⟨k, l, rfl, rfl, H.out, rfl, Nat.le_refl _, rfl⟩
  case round =>
    obtain ⟨j, t, hq, rfl, hA, hs, hkj, rfl⟩ := hrel
    have HQ := Lib.hid hq
    have HA := Lib.hid hA
    have HS := Lib.hid hs
    have hjl := hA.le
    clear hq hs H
    cases t with
    | nil =>
      have e1 : decide (j < s.length) = false := by rw [decide_eq_false_iff_not]; have := hA.nil; omega
      clear hA
      go_wp2_with fail
      go_ret
      exact ⟨⟨j, rfl, by rw [← HS.out]; exact HA.out, hkj⟩, rfl⟩
    | cons c r =>
      have e1 : j < s.length := hA.lt
      have hb := hA.bt
      obtain ⟨n, hn⟩ : ∃ n, c.toNat = n := ⟨_, rfl⟩
      rw [hn] at hb
      have HN := Lib.hid hn
      clear hA hn
      by_cases k1 : n = 32
      · have hbl : isBl c = true := by unfold isBl; rw [HN.out, k1]; rfl
        have e32 : ((n : Int) == 32) = true := by rw [k1]; rfl
        have HB := Lib.hid hbl
        clear hbl k1
        go_wp2_with fail
        go_roundg (gk - 1)
        case measure => have := HQ.out; simp at this; omega
        case rel => exact ⟨j + 1, r, by have := HQ.out; simp at this; omega, rfl, HA.out.next, by rw [← HS.out]; unfold skipL; rw [List.dropWhile_cons, if_pos HB.out], by omega, rfl⟩
      have e32 : ((n : Int) == 32) = false := by rw [beq_eq_false_iff_ne]; omega
      by_cases k2 : n = 9
      · have hbl : isBl c = true := by unfold isBl; rw [HN.out, k2]; rfl
        have e9 : ((n : Int) == 9) = true := by rw [k2]; rfl
        have HB := Lib.hid hbl
        clear hbl k1 k2
        go_wp2_with fail
        go_roundg (gk - 1)
        case measure => have := HQ.out; simp at this; omega
        case rel => exact ⟨j + 1, r, by have := HQ.out; simp at this; omega, rfl, HA.out.next, by rw [← HS.out]; unfold skipL; rw [List.dropWhile_cons, if_pos HB.out], by omega, rfl⟩
      · have hbl : isBl c = false := by unfold isBl; rw [HN.out]; simp; omega
        have e9 : ((n : Int) == 9) = false := by rw [beq_eq_false_iff_ne]; omega
        have HB := Lib.hid hbl
        clear hbl k1 k2
        go_wp2_with fail
        go_ret
        exact ⟨⟨j, rfl, by rw [← HS.out]; unfold skipL; rw [List.dropWhile_cons, if_neg (by rw [HB.out]; decide)]; exact HA.out, hkj⟩, rfl⟩
/-- Does a digit stand there? -/
def digH : List UInt8 → Bool
  | [] => false
  | c :: _ => isDig c
set_option maxRecDepth 3000 in
set_option maxHeartbeats 1000000 in
theorem digit_any {s l : List UInt8} {k : Nat} (h : At s k l) (hl : s.length ≤ 100000) (w : World) :
    Calls Tryd.prog 36 #[.string (tx s), .int .i64 k] w fun e w' => e = .returned (.bool (digH l)) ∧ w' = w := by
  have hkl := h.le
  cases l with
  | nil =>
    have e1 : decide (k < s.length) = false := by rw [decide_eq_false_iff_not]; have := h.nil; omega
    clear h
    go_enter Tryd.func36, Tryd.ntmps36
    go_wp2_with fail
    go_ret
    exact ⟨rfl, rfl⟩
  | cons c r =>
    have e1 : k < s.length := h.lt
    have hb := h.bt
    obtain ⟨n, hn⟩ : ∃ n, c.toNat = n := ⟨_, rfl⟩
    rw [hn] at hb
    have hd : digH (c :: r) = decide (48 ≤ n ∧ n ≤ 57) := by rw [← hn]; rfl
    rw [hd]
    clear h hn hd
    by_cases k1 : 48 ≤ n
    · by_cases k2 : n ≤ 57
      · rw [show decide (48 ≤ n ∧ n ≤ 57) = true from decide_eq_true ⟨k1, k2⟩]
        go_enter Tryd.func36, Tryd.ntmps36
        go_wp2_with fail
        go_ret
        exact ⟨by simp; omega, rfl⟩
      · rw [show decide (48 ≤ n ∧ n ≤ 57) = false from decide_eq_false fun h => k2 h.2]
        have d2 : decide (n ≤ 57) = false := decide_eq_false k2
        go_enter Tryd.func36, Tryd.ntmps36
        go_wp2_with fail
        go_ret
        exact ⟨by simp; try omega, rfl⟩
    · rw [show decide (48 ≤ n ∧ n ≤ 57) = false from decide_eq_false fun h => k1 h.1]
      have d2 : decide (48 ≤ n) = false := decide_eq_false k1
      go_enter Tryd.func36, Tryd.ntmps36
      go_wp2_with fail
      go_ret
      exact ⟨by simp; try omega, rfl⟩
set_option maxRecDepth 3000 in
theorem valD_app (a : List UInt8) (c : UInt8) : valD (a ++ [c]) = 10 * valD a + (c.toNat - 48) := by unfold valD; rw [List.foldl_append]; rfl
set_option maxRecDepth 3000 in
theorem valD_rev : ∀ (m : Nat) (a : List UInt8), a.length ≤ m → (∀ c, c ∈ a → isDig c = true) → valD a < 10 ^ a.length := by
  intro m
  induction m with
  | zero => intro a h _; have : a = [] := List.length_eq_zero_iff.1 (by omega); subst this; decide
  | succ m ih =>
    intro a h hd
    rcases List.eq_nil_or_concat a with rfl | ⟨b, c, rfl⟩
    · decide
    · rw [List.concat_eq_append] at h hd ⊢
      rw [valD_app, List.length_append]
      have h1 := ih b (by simp at h; omega) fun c hc => hd c (List.mem_append_left _ hc)
      have h2 := hd c (by simp)
      unfold isDig at h2
      simp at h2
      simp only [List.length_cons, List.length_nil, Nat.zero_add, Nat.pow_succ]
      omega
set_option maxRecDepth 3000 in
theorem valD_nine {a : List UInt8} (h : a.length ≤ 9) (hd : ∀ c, c ∈ a → isDig c = true) : valD a < 1000000000 :=
  Nat.lt_of_lt_of_le (valD_rev _ a (Nat.le_refl _) hd) (Nat.le_trans (Nat.pow_le_pow_right (by decide) h) (by decide))
set_option maxRecDepth 3000 in
theorem take_dig {a t : List UInt8} (hd : ∀ c, c ∈ a → isDig c = true) (ht : digH t = false) : (a ++ t).takeWhile isDig = a ∧ (a ++ t).dropWhile isDig = t := by
  have h1 : (a ++ t).takeWhile isDig = a := by
    rw [List.takeWhile_append_of_pos hd]
    cases t with
    | nil => simp
    | cons c r => rw [List.takeWhile_cons, if_neg (by rw [show isDig c = false from ht]; decide)]; simp
  refine ⟨h1, ?_⟩
  have := List.takeWhile_append_dropWhile (p := isDig) (l := a ++ t)
  rw [h1] at this
  exact List.append_cancel_left this
set_option maxRecDepth 3000 in
theorem num_many {a r : List UInt8} {c : UInt8} (hd : ∀ c, c ∈ a → isDig c = true) (hc : isDig c = true) (h9 : 9 ≤ a.length) : numL (a ++ c :: r) = none := by
  unfold numL
  rw [if_pos]
  rw [List.takeWhile_append_of_pos hd, List.takeWhile_cons, if_pos hc, List.length_append, List.length_cons]
  omega
/-- What number leaves. -/
def NumPost (s : List UInt8) (k : Nat) (l : List UInt8) (e : Ending) : Prop :=
  match numL l with
  | none => e = .returned (.tuple #[.int .i64 0, .int .i64 0, .bool false])
  | some x => ∃ j : Nat, e = .returned (.tuple #[.int .i64 x.1, .int .i64 j, .bool true]) ∧ At s j x.2 ∧ k ≤ j ∧ x.1 < 1000000000
set_option maxRecDepth 3000 in
set_option maxHeartbeats 2000000 in
theorem number_any {s l : List UInt8} {k : Nat} (h : At s k l) (hl : s.length ≤ 100000) (w : World) :
    Calls Tryd.prog 37 #[.string (tx s), .int .i64 k] w fun e w' => NumPost s k l e ∧ w' = w := by
  have H := Lib.hid h
  have hkl := h.le
  clear h
  go_enter Tryd.func37, Tryd.ntmps37
  go_wp2_with fail
  go_loopg [4, 5] l.length (fun q v4 v5 wr => ∃ (a t : List UInt8), q = t.length ∧ l = a ++ t ∧ (∀ c, c ∈ a → isDig c = true) ∧ a.length ≤ 9 ∧ v4 = .int .i64 (valD a : Nat) ∧ v5 = .int .i64 ((k + a.length : Nat) : Int) ∧ At s (k + a.length) t ∧ wr = w)
  case atStart => exact ⟨[], l, rfl, rfl, (fun c hc => by cases hc), Nat.zero_le _, rfl, rfl, H.out, rfl⟩
  case round =>
    obtain ⟨a, t, hq, hlt, hd, h9, rfl, rfl, hA, rfl⟩ := hrel
    have hv := valD_nine h9 hd
    have HQ := Lib.hid hq
    have HLT := Lib.hid hlt
    have HD := Lib.hid hd
    have HA := Lib.hid hA
    have hjl := hA.le
    obtain ⟨V, hV⟩ : ∃ V, valD a = V := ⟨_, rfl⟩
    obtain ⟨J, hJ⟩ : ∃ J, k + a.length = J := ⟨_, rfl⟩
    rw [hV] at hv ⊢
    rw [hJ] at hjl ⊢
    have hA2 : At s J t := hJ ▸ hA
    have HA2 := Lib.hid hA2
    have HV := Lib.hid hV
    have HJ := Lib.hid hJ
    clear hq hlt hd hA hV hJ hA2 H HA
    cases hdg : digH t with
    | false =>
      have hnum : numL l = some (V, t) := by
        obtain ⟨e1, e2⟩ := take_dig HD.out hdg
        unfold numL
        rw [HLT.out, e1, e2, if_neg (by omega), HV.out]
      go_wp2_with fail
      (with_reducible refine (digit_any HA2.out hl _).mono ?_)
      rw [hdg]
      rintro e w1 ⟨rfl, hw⟩
      subst hw
      have HN := Lib.hid hnum
      clear hnum hdg
      go_wp2_with fail
      refine bodyPost_ret (v := .tuple #[.int .i64 V, .int .i64 J, .bool true]) (by simp [results, Tryd.results37, go_sem]) rfl ⟨?_, rfl⟩
      unfold NumPost
      rw [HN.out]
      exact ⟨J, rfl, HA2.out, by have := HJ.out; omega, hv⟩
    | true =>
      cases t with
      | nil => cases hdg
      | cons c r =>
        have hc : isDig c = true := hdg
        have hb := HA2.out.bt
        have hlt := HA2.out.lt
        obtain ⟨B, hB⟩ : ∃ B : Nat, c.toNat = 48 + B := ⟨c.toNat - 48, by unfold isDig at hc; simp at hc; omega⟩
        have hB9 : B ≤ 9 := by unfold isDig at hc; simp at hc; omega
        have HC := Lib.hid hc
        have HB := Lib.hid hB
        have x3 : (bt s J : Int) - 48 = (B : Int) := by rw [hb, hB]; omega
        have hlti : (J : Int) < (s.length : Int) := by omega
        have HDG := Lib.hid hdg
        clear hc hB hdg hb
        go_wp2_with fail
        (with_reducible refine (digit_any HA2.out hl _).mono ?_)
        rw [HDG.out]
        rintro e w1 ⟨rfl, hw⟩
        subst hw
        have hjk : (J : Int) - (k : Int) = (a.length : Int) := by have := HJ.out; omega
        by_cases hn9 : a.length = 9
        · have hnum : numL l = none := by rw [HLT.out]; exact num_many HD.out HC.out (by omega)
          have e9 : (9 : Int) ≤ (a.length : Int) := by omega
          have e9n : 9 ≤ a.length := by omega
          have HN := Lib.hid hnum
          clear hnum hn9
          go_wp2_with fail
          refine bodyPost_ret (v := .tuple #[.int .i64 0, .int .i64 0, .bool false]) (by simp [results, Tryd.results37, go_sem]) rfl ⟨?_, rfl⟩
          unfold NumPost
          rw [HN.out]
        · have e9 : decide ((9 : Int) ≤ (a.length : Int)) = false := by rw [decide_eq_false_iff_not]; omega
          have e9n : decide (9 ≤ a.length) = false := by rw [decide_eq_false_iff_not]; omega
          have HN9 := Lib.hid hn9
          clear hn9
          go_wp2_with fail
          go_roundg (gk - 1)
          case measure => have := HQ.out; simp at this; omega
          case rel => exact ⟨a ++ [c], r, by have := HQ.out; simp at this; omega, by rw [HLT.out]; simp, fun d hdm => by
              rw [List.mem_append, List.mem_singleton] at hdm
              rcases hdm with hdm | rfl
              · exact HD.out d hdm
              · exact HC.out, by have := HN9.out; simp; omega, by rw [valD_app, HV.out, HB.out]; simp, by rw [List.length_append]; have := HJ.out; simp; omega, by rw [List.length_append, ← Nat.add_assoc, HJ.out]; exact HA2.out.next, rfl⟩
end Go.Proofs.YtpdlmknbpggohaaDoor

/-
  strings.Builder: copyCheck and WriteString at a builder that the call itself has made (the library's words: IsBuilder, BuilderAt).
-/
namespace Go.Proofs.YtpdlmknbpggohaaDoor
open Go.RowKit

set_option maxRecDepth 3000 in
theorem sizeBuilder : (Tryd.prog.info? 121).map (·.size) = some 2 := by kernel_rfl
set_option maxRecDepth 3000 in
theorem liesBuilder : liesAt Tryd.prog Tryd.prog.depth 121 (2 / Tryd.prog.cellsOf 121) 0 121 1 = true := by kernel_rfl
set_option maxRecDepth 3000 in
theorem infoByte : (Tryd.prog.info? 5).map (fun i => (i.zero, i.size, i.bytes)) = some (some (.int .u8 0), 1, 1) := by kernel_rfl

set_option maxRecDepth 3000 in
set_option maxHeartbeats 1000000 in
theorem copyCheck_used (b : Nat) (w : World) (h0 : w.cell? ⟨b, 0, none⟩ = some (.pointer (some ⟨b, 0, none⟩))) :
    Calls Tryd.prog 76 #[.pointer (some ⟨b, 0, none⟩)] w fun e w' => e = .returned (.tuple #[]) ∧ w' = w := by
  obtain ⟨j, hj, _⟩ := Option.map_eq_some_iff.1 sizeBuilder
  go_enter Tryd.func76, Tryd.ntmps76
  go_wp2
  rw [Lib.run_neq_ptr_same w _ Tryd.underlying119 hj]
  go_wp2
  go_end0
  exact ⟨rfl, rfl⟩

set_option maxHeartbeats 1000000 in
set_option maxRecDepth 100000 in
theorem copyCheck_fresh (b : Nat) (w : World) (h0 : w.cell? ⟨b, 0, none⟩ = some (.pointer none)) (hsh : w.shape? b = some (121, 2)) (hfz : w.frozen? ⟨b, 0, none⟩ = false) :
    Calls Tryd.prog 76 #[.pointer (some ⟨b, 0, none⟩)] w fun e w' => e = .returned (.tuple #[]) ∧ w' = w.setCell ⟨b, 0, none⟩ (.pointer (some ⟨b, 0, none⟩)) := by
  obtain ⟨j, hj, hjs⟩ := Option.map_eq_some_iff.1 sizeBuilder
  go_enter Tryd.func76, Tryd.ntmps76
  go_wp2
  rw [Lib.run_to_unsafe w ⟨b, 0, none⟩ Tryd.underlying119 Tryd.underlying149 hj (by rw [hjs]; decide) hsh (Nat.zero_lt_succ 1)]
  simp only [Result.andThen]
  rw [Oper.upon_value]
  go_wp2
  rw [run_callFunc_extern Tryd.func85 (by kernel_rfl) (by kernel_rfl) (by kernel_rfl) (e := Extern.AbiNoEscape.same) (by kernel_rfl)]
  rw [Lib.run_noEscape]
  simp only [Result.andThen]
  rw [Oper.upon_value]
  go_wp2
  rw [Lib.run_from_unsafe w ⟨b, 0, none⟩ Tryd.underlying149 Tryd.underlying119 hj hsh liesBuilder]
  simp only [Result.andThen]
  rw [Oper.upon_value]
  go_wp2
  go_end0
  exact ⟨rfl, rfl⟩

set_option maxRecDepth 3000 in
theorem copyCheck_any (B b : Nat) (bs : List Value) (w : World) (h : Lib.IsBuilder 121 5 B b bs w) :
    Calls Tryd.prog 76 #[.pointer (some ⟨b, 0, none⟩)] w fun e w' => e = .returned (.tuple #[]) ∧ Lib.BuilderAt 121 5 B b (.pointer (some ⟨b, 0, none⟩)) bs w' ∧ Below B w w' := by
  rcases h with h | h
  · refine (copyCheck_fresh b w h.cell0 h.shape h.frozen0).mono ?_
    rintro e w' ⟨rfl, rfl⟩
    exact ⟨rfl, h.used _, (Below.refl B w).setCell (p := ⟨b, 0, none⟩) h.1 _⟩
  · refine (copyCheck_used b w h.cell0).mono ?_
    rintro e w' ⟨rfl, rfl⟩
    exact ⟨rfl, h, Below.refl B _⟩

set_option maxRecDepth 3000 in
set_option maxHeartbeats 1000000 in
theorem writeString_any (B b : Nat) (bs : List Value) (s : ByteArray) (w : World) (h : Lib.IsBuilder 121 5 B b bs w) (hlen : bs.length + s.size ≤ 140737488355328) (hBw : B ≤ w.heap.size) :
    Calls Tryd.prog 67 #[.pointer (some ⟨b, 0, none⟩), .string s] w fun e w' => e = .returned (.tuple #[.int .i64 s.size, .nilIface]) ∧ Lib.BuilderAt 121 5 B b (.pointer (some ⟨b, 0, none⟩)) (bs ++ Lib.strCells s) w' ∧ Below B w w' := by
  obtain ⟨i0, hi, hz0, hz1, hz2⟩ := info_parts infoByte
  go_enter Tryd.func67, Tryd.ntmps67
  go_wp2_with fail
  refine (copyCheck_any B b bs _ h).mono ?_
  rintro e w1 ⟨rfl, h1, hb1⟩
  obtain ⟨hB, v, hbk, hown, hne⟩ := h1
  have c0 : w1.cell? ⟨b, 0, none⟩ = some (.pointer (some ⟨b, 0, none⟩)) := by rw [Lib.cell_of_heap hbk]; rfl
  have c1 : w1.cell? ⟨b, 1, none⟩ = some v := by rw [Lib.cell_of_heap hbk]; rfl
  go_wp2_with (at_builtin; refine Lib.wpList_append_own_string _ rfl _ _ 47 9 rfl B 5 i0 Tryd.underlying47 Tryd.underlying9 hi hz0 hz1 hz2 _ _ _ rfl hown s rfl ?c3 ?c4 ?c5 ?_)
  case c3 => unfold maxLen; omega
  case c4 => omega
  case c5 => have := hb1.size; omega
  intro v' w2 hown' hgrow _
  have hlt : b < w1.heap.size := (Array.getElem?_eq_some_iff.1 hbk).1
  have hb2 : w2.heap[b]? = some (.cells #[.pointer (some ⟨b, 0, none⟩), v] 121 (0, 0)) := by
    rw [hgrow.block b hlt (fun e => hne e.symm)]
    exact hbk
  have d0 : w2.cell? ⟨b, 0, none⟩ = some (.pointer (some ⟨b, 0, none⟩)) := by rw [Lib.cell_of_heap hb2]; rfl
  have d1 : w2.cell? ⟨b, 1, none⟩ = some v := by rw [Lib.cell_of_heap hb2]; rfl
  have f1 : w2.frozen? ⟨b, 1, none⟩ = false := Lib.frozen_of_heap hb2 1
  obtain ⟨ao, n', cap, rfl⟩ : ∃ ao n' cap, v' = .slice ao n' cap := by
    rcases hown'.2 with ⟨hv, _⟩ | ⟨g, cap, cur, hv, _⟩
    · exact ⟨_, _, _, hv⟩
    · exact ⟨_, _, _, hv⟩
  go_wp2
  go_ret2
  refine ⟨rfl, ?_, ?_⟩
  · exact Lib.BuilderAt.put hB hb2 (bs' := bs ++ Lib.strCells s) (by simpa [Lib.strCells_length] using hown') (by decide)
  · exact (hb1.grown hgrow (by have := hb1.size; omega) (fun k hk => (hown.lt k hk).1)).setCell (p := ⟨b, 1, none⟩) hB _
end Go.Proofs.YtpdlmknbpggohaaDoor

/-
  strings.Builder: WriteByte at a builder that the call itself has made.
-/
namespace Go.Proofs.YtpdlmknbpggohaaDoor
open Go.RowKit

set_option maxRecDepth 3000 in
theorem own_more {w : World} {b n size : Nat} {e : TypeId} {v : Value} {xs : List Value} (h : w.ownsRow b e size v n xs) (o : Obj) : (w.alloc o).ownsRow b e size v n xs := by
  obtain ⟨h1, h2⟩ := h
  refine ⟨h1, h2.elim .inl ?_⟩
  rintro ⟨g, cap, cur, rfl, hb, hh, r⟩
  have hg := (Array.getElem?_eq_some_iff.1 hh).1
  refine .inr ⟨g, cap, cur, rfl, hb, ?_, r⟩
  show (w.heap.push o)[g]? = _
  rw [Array.getElem?_push_lt hg, ← hh]
  exact (Array.getElem?_eq_getElem hg).symm
set_option maxRecDepth 3000 in
set_option maxHeartbeats 1000000 in
theorem writeByte_any (B b : Nat) (bs : List Value) (c : Int) (w : World) (h : Lib.IsBuilder 121 5 B b bs w) (hlen : bs.length ≤ 1000000000) (hBw : B ≤ w.heap.size) :
    Calls Tryd.prog 66 #[.pointer (some ⟨b, 0, none⟩), .int .u8 c] w fun e w' => e = .returned .nilIface ∧ Lib.BuilderAt 121 5 B b (.pointer (some ⟨b, 0, none⟩)) (bs ++ [.int .u8 c]) w' ∧ Below B w w' := by
  obtain ⟨i0, hi, hz0, hz1, hz2⟩ := info_parts infoByte
  go_enter Tryd.func66, Tryd.ntmps66
  go_wp2_with fail
  refine (copyCheck_any B b bs _ h).mono ?_
  rintro e w1 ⟨rfl, h1, hb1⟩
  obtain ⟨hB, v, hbk, hown, hne⟩ := h1
  have hlt : b < w1.heap.size := (Array.getElem?_eq_some_iff.1 hbk).1
  have c0 : w1.cell? ⟨b, 0, none⟩ = some (.pointer (some ⟨b, 0, none⟩)) := by rw [Lib.cell_of_heap hbk]; rfl
  have c1 : w1.cell? ⟨b, 1, none⟩ = some v := by rw [Lib.cell_of_heap hbk]; rfl
  have ib : InHeap b w1 := hlt
  have hown1 := own_more hown (.cells #[.int .u8 c] 5)
  have hs1 := hb1.size
  go_wp2_with (at_builtin; go_must (refine wpList_append_own _ rfl (.tmp 11) (.tmp 13) 47 rfl B 5 i0 (.int .u8 0) 1 1 Tryd.underlying47 hi hz0 hz1 hz2 rfl (by decide) _ _ _ rfl hown1 ⟨w1.heap.size, 0, none⟩ 1 1 [.int .u8 c] rfl rfl (cell_one_new _ _ _) (by simp [Value.oneCell']) (by unfold maxLen; omega) (by omega) (by simp; omega) ?_))
  intro v' w2 hown' hgrow _
  have hbk1 : (w1.alloc (.cells #[.int .u8 c] 5)).heap[b]? = some (.cells #[.pointer (some ⟨b, 0, none⟩), v] 121 (0, 0)) := by
    show (w1.heap.push _)[b]? = _
    rw [Array.getElem?_push_lt hlt, ← hbk]
    exact (Array.getElem?_eq_getElem hlt).symm
  have hb2 : w2.heap[b]? = some (.cells #[.pointer (some ⟨b, 0, none⟩), v] 121 (0, 0)) := by
    rw [hgrow.block b (by simp; omega) (fun e => hne e.symm)]
    exact hbk1
  have d0 : w2.cell? ⟨b, 0, none⟩ = some (.pointer (some ⟨b, 0, none⟩)) := by rw [Lib.cell_of_heap hb2]; rfl
  have d1 : w2.cell? ⟨b, 1, none⟩ = some v := by rw [Lib.cell_of_heap hb2]; rfl
  have f1 : w2.frozen? ⟨b, 1, none⟩ = false := Lib.frozen_of_heap hb2 1
  obtain ⟨ao, n', cap, rfl⟩ : ∃ ao n' cap, v' = .slice ao n' cap := by
    rcases hown'.2 with ⟨hv, _⟩ | ⟨g, cap, cur, hv, _⟩
    · exact ⟨_, _, _, hv⟩
    · exact ⟨_, _, _, hv⟩
  go_wp2
  go_ret
  refine ⟨rfl, ?_, ?_⟩
  · exact Lib.BuilderAt.put hB hb2 (bs' := bs ++ [.int .u8 c]) (by simpa using hown') (by decide)
  · have hb3 : Below B w (w1.alloc (.cells #[.int .u8 c] 5)) := hb1.alloc (by omega) _
    exact (hb3.grown hgrow (by have := hb3.size; omega) (fun k hk => (hown1.lt k hk).1)).setCell (p := ⟨b, 1, none⟩) hB _
end Go.Proofs.YtpdlmknbpggohaaDoor

/-
  Addresses: what stands up to a delimiter, walked.
-/
namespace Go.Proofs.YtpdlmknbpggohaaDoor
open Go.RowKit

attribute [local go_sem] tx_bt tx_from
section
variable {by_ c d : UInt8} {r : List UInt8}
set_option maxRecDepth 3000 in
theorem delim_hit (h : c = by_) : delimL by_ (c :: r) = ([], r, true) := by rw [delimL.eq_def]; simp only []; rw [if_pos h]
set_option maxRecDepth 3000 in
theorem delim_plain (h : ¬ c = by_) (h2 : ¬ c.toNat = 92) : delimL by_ (c :: r) = (c :: (delimL by_ r).1, (delimL by_ r).2) := by rw [delimL.eq_def]; simp only []; rw [if_neg h, if_neg h2]
set_option maxRecDepth 3000 in
theorem delim_bs_end (h : ¬ c = by_) (h2 : c.toNat = 92) : delimL by_ [c] = ([c], [], false) := by rw [delimL.eq_def]; simp only []; rw [if_neg h, if_pos h2]
set_option maxRecDepth 3000 in
theorem delim_bs_by (h : ¬ c = by_) (h2 : c.toNat = 92) (h3 : d = by_) : delimL by_ (c :: d :: r) = (d :: (delimL by_ r).1, (delimL by_ r).2) := by rw [delimL.eq_def]; simp only []; rw [if_neg h, if_pos h2, if_pos h3]
set_option maxRecDepth 3000 in
theorem delim_bs (h : ¬ c = by_) (h2 : c.toNat = 92) (h3 : ¬ d = by_) : delimL by_ (c :: d :: r) = (c :: d :: (delimL by_ r).1, (delimL by_ r).2) := by rw [delimL.eq_def]; simp only []; rw [if_neg h, if_pos h2, if_neg h3]
end
set_option maxRecDepth 3000 in
theorem byteCells_one (c : UInt8) : Lib.byteCells [c] = [.int .u8 c.toNat] := rfl
set_option maxRecDepth 3000 in
theorem strCells_two (c d : UInt8) : Lib.strCells (tx [c, d]) = Lib.byteCells [c, d] := rfl
set_option maxRecDepth 3000 in
theorem tx_two {s : List UInt8} {k : Nat} {c d : UInt8} {r : List UInt8} (h : At s k (c :: d :: r)) : (tx s).extract k (k + 2) = tx [c, d] := by
  apply WideShapes.bytes_inj
  have h1 : ((tx s).extract k (k + 2)).data.toList = (s.drop k).take 2 := by
    simp [tx, List.extract_eq_take_drop]
  rw [h1, h.eq]
  rfl
/-- What Delimited leaves. -/
def DelPost (s : List UInt8) (k : Nat) (x : List UInt8 × List UInt8 × Bool) (e : Ending) : Prop :=
  ∃ j : Nat, e = .returned (.tuple #[.string (tx x.1), .int .i64 j, .bool x.2.2]) ∧ At s j x.2.1 ∧ k ≤ j
set_option maxRecDepth 3000 in
set_option maxHeartbeats 4000000 in
theorem delimited_any {s l : List UInt8} {k : Nat} (h : At s k l) (hl : s.length ≤ 100000) (by_ : UInt8) (w : World) :
    Calls Tryd.prog 49 #[.string (tx s), .int .i64 k, .int .u8 by_.toNat] w fun e w' => DelPost s k (delimL by_ l) e ∧ Grows w w' := by
  have H := Lib.hid h
  have hkl := h.le
  have hk0 : max (k : Int) 0 = (k : Int) := by omega
  have hmx : max (s.length : Int) (k : Int) = (s.length : Int) := by omega
  clear h
  obtain ⟨B0, hB0⟩ : ∃ n, by_.toNat = n := ⟨_, rfl⟩
  have HB0 := Lib.hid hB0
  rw [hB0]
  clear hB0
  have hB255 : B0 < 256 := by rw [← HB0.out]; exact by_.toNat_lt
  go_enter Tryd.func49, Tryd.ntmps49
  go_wp2_with fail
  go_loopg [10] l.length (fun q v10 wr => ∃ (j : Nat) (a t : List UInt8), q = t.length ∧ v10 = .int .i64 j ∧ At s j t ∧ k ≤ j ∧ a.length ≤ j ∧ delimL by_ l = (a ++ (delimL by_ t).1, (delimL by_ t).2) ∧ Lib.IsBuilder 121 5 w.heap.size w.heap.size (Lib.byteCells a) wr ∧ Below w.heap.size w wr)
  case atStart =>
    refine ⟨k, [], l, rfl, rfl, H.out, Nat.le_refl _, Nat.zero_le _, rfl, .inl ⟨Nat.le_refl _, .slice none 0 0, World.alloc_heap_new _ _, World.ownsRow_nil _ _ _ _, by simp [Value.ownBlock]⟩, (Below.refl _ w).alloc (Nat.le_refl _) _⟩
  case round =>
    obtain ⟨j, a, t, hq, rfl, hA, hkj, haj, hD, hI, hB⟩ := hrel
    obtain ⟨wx, hwx⟩ : ∃ z, z = wr := ⟨_, rfl⟩
    subst hwx
    have HQ := Lib.hid hq
    have HA := Lib.hid hA
    have HD := Lib.hid hD
    have hjl := hA.le
    have hsz := hB.size
    have hbl : (Lib.byteCells a).length ≤ 100000 := by rw [Lib.byteCells_length]; omega
    clear hq hD H
    cases t with
    | nil =>
      have e1 : decide (j < s.length) = false := by rw [decide_eq_false_iff_not]; have := hA.nil; omega
      clear hA
      go_wp2_with fail
      (with_reducible refine (Tryd.Builder_String_any w.heap.size w.heap.size _ _ hI hsz).mono ?_)
      rintro e w1 ⟨rfl, hB1⟩
      go_wp2_with fail
      refine bodyPost_ret (v := .tuple #[.string (tx a), .int .i64 s.length, .bool false]) (by simp [results, Tryd.results49, go_sem]; rfl) rfl ⟨?_, Grows.of_below (hB.trans hB1)⟩
      rw [HD.out]
      exact ⟨s.length, by simp [delimL], At.end_ s, hkl⟩
    | cons c r =>
      have e1 : j < s.length := hA.lt
      have hb := hA.bt
      obtain ⟨n, hn⟩ : ∃ n, c.toNat = n := ⟨_, rfl⟩
      rw [hn] at hb
      have HN := Lib.hid hn
      have hn255 : n < 256 := by rw [← hn]; exact c.toNat_lt
      clear hA hn
      by_cases k1 : n = B0
      · have hcb : c = by_ := UInt8.toNat_inj.1 (HN.out.trans (k1.trans HB0.out.symm))
        have hd : delimL by_ (c :: r) = ([], r, true) := delim_hit hcb
        have HDD := Lib.hid hd
        subst k1
        clear hcb hd
        go_wp2_with fail
        (with_reducible refine (Tryd.Builder_String_any w.heap.size w.heap.size _ _ hI hsz).mono ?_)
        rintro e w1 ⟨rfl, hB1⟩
        go_wp2_with fail
        refine bodyPost_ret (v := .tuple #[.string (tx a), .int .i64 ((j : Int) + 1), .bool true]) (by simp [results, Tryd.results49, go_sem]; rfl) rfl ⟨?_, Grows.of_below (hB.trans hB1)⟩
        rw [HD.out, HDD.out]
        exact ⟨j + 1, by simp, HA.out.next, by omega⟩
      have ebI : ((n : Int) == (B0 : Int)) = false := by rw [beq_eq_false_iff_ne]; omega
      have ebN : (n == B0) = false := by rw [beq_eq_false_iff_ne]; omega
      have hcb : ¬ c = by_ := fun e => k1 (by rw [← HN.out, ← HB0.out, e])
      have HCB := Lib.hid hcb
      clear hcb k1
      by_cases k92 : n = 92
      · have e92 : ((n : Int) == 92) = true := by rw [k92]; rfl
        have K92 := Lib.hid k92
        clear k92
        cases r with
        | nil =>
          have hend : j + 1 = s.length := by have := HA.out.next.nil; omega
          have e2 : decide (j + 1 < s.length) = false := by rw [decide_eq_false_iff_not]; omega
          have e2i : decide ((j : Int) + 1 < (s.length : Int)) = false := by rw [decide_eq_false_iff_not]; omega
          have hd : delimL by_ [c] = ([c], [], false) := delim_bs_end HCB.out (HN.out.trans K92.out)
          have HDD := Lib.hid hd
          clear hd hend
          go_wp2_with fail
          (with_reducible refine (writeByte_any w.heap.size w.heap.size _ _ _ hI (by omega) hsz).mono ?_)
          rintro e w1 ⟨rfl, hI1, hB1⟩
          go_wp2_with fail
          go_roundg 0
          case measure => have := HQ.out; simp at this; omega
          case rel => exact ⟨j + 1, a ++ [c], [], rfl, rfl, HA.out.next, by omega, by simp; omega, by rw [HD.out, HDD.out]; simp [delimL], .inr (by rw [Lib.byteCells_append, byteCells_one, HN.out]; exact hI1), hB.trans hB1⟩
        | cons d r =>
          have e2 : j + 1 < s.length := by have := HA.out.next.lt; omega
          have e2i : (j : Int) + 1 < (s.length : Int) := by omega
          have hb2 := HA.out.next.bt
          obtain ⟨m, hm⟩ : ∃ m, d.toNat = m := ⟨_, rfl⟩
          rw [hm] at hb2
          have HM := Lib.hid hm
          have hm255 : m < 256 := by rw [← hm]; exact d.toNat_lt
          clear hm
          by_cases k2 : m = B0
          · have hdb : d = by_ := UInt8.toNat_inj.1 (HM.out.trans (k2.trans HB0.out.symm))
            have hd : delimL by_ (c :: d :: r) = (d :: (delimL by_ r).1, (delimL by_ r).2) := delim_bs_by HCB.out (HN.out.trans K92.out) hdb
            have HDD := Lib.hid hd
            subst k2
            clear hdb hd
            go_wp2_with fail
            (with_reducible refine (writeByte_any w.heap.size w.heap.size _ _ _ hI (by omega) hsz).mono ?_)
            rintro e w1 ⟨rfl, hI1, hB1⟩
            go_wp2_with fail
            go_roundg (gk - 2)
            case measure => have := HQ.out; simp at this; omega
            case rel => exact ⟨j + 2, a ++ [d], r, by have := HQ.out; simp at this; omega, by go_num, HA.out.next.next, by omega, by simp; omega, by rw [HD.out, HDD.out]; simp, .inr (by rw [Lib.byteCells_append, byteCells_one, HM.out]; exact hI1), hB.trans hB1⟩
          · have ebI2 : ((m : Int) == (B0 : Int)) = false := by rw [beq_eq_false_iff_ne]; omega
            have ebN2 : (m == B0) = false := by rw [beq_eq_false_iff_ne]; omega
            have hdb : ¬ d = by_ := fun e => k2 (by rw [← HM.out, ← HB0.out, e])
            have hd : delimL by_ (c :: d :: r) = (c :: d :: (delimL by_ r).1, (delimL by_ r).2) := delim_bs HCB.out (HN.out.trans K92.out) hdb
            have HDD := Lib.hid hd
            have hcut := tx_two HA.out
            clear hdb hd k2
            go_wp2_with fail
            (with_reducible refine (writeString_any w.heap.size w.heap.size _ (tx [c, d]) _ hI (by rw [tx_size]; simp; omega) hsz).mono ?_)
            rintro e w1 ⟨rfl, hI1, hB1⟩
            clear hcut
            go_wp2_with fail
            go_roundg (gk - 2)
            case measure => have := HQ.out; simp at this; omega
            case rel => exact ⟨j + 2, a ++ [c, d], r, by have := HQ.out; simp at this; omega, by go_num, HA.out.next.next, by omega, by simp; omega, by rw [HD.out, HDD.out]; simp, .inr (by rw [Lib.byteCells_append, ← strCells_two]; exact hI1), hB.trans hB1⟩
      · have e92 : ((n : Int) == 92) = false := by rw [beq_eq_false_iff_ne]; omega
        have hd : delimL by_ (c :: r) = (c :: (delimL by_ r).1, (delimL by_ r).2) := delim_plain HCB.out (by rw [HN.out]; exact k92)
        have HDD := Lib.hid hd
        clear hd k92
        go_wp2_with fail
        (with_reducible refine (writeByte_any w.heap.size w.heap.size _ _ _ hI (by omega) hsz).mono ?_)
        rintro e w1 ⟨rfl, hI1, hB1⟩
        go_wp2_with fail
        go_roundg (gk - 1)
        case measure => have := HQ.out; simp at this; omega
        case rel => exact ⟨j + 1, a ++ [c], r, by have := HQ.out; simp at this; omega, rfl, HA.out.next, by omega, by simp; omega, by rw [HD.out, HDD.out]; simp, .inr (by rw [Lib.byteCells_append, byteCells_one, HN.out]; exact hI1), hB.trans hB1⟩
end Go.Proofs.YtpdlmknbpggohaaDoor
