/-
  Pieces: the law PiecesLimits.
-/
import Derived.Test.YtblcggmbaofflaaPiecesScr
import Derived.Laws.BytesArg
namespace Go.Proofs.Ytblcggmbaofflaa
open Go.RowKit

/-- So many bytes 0. -/
def zeroB (k : Nat) : List UInt8 := List.replicate k 0
/-- Empty lines. -/
def empties (n : Nat) : List (List UInt8) := List.replicate n []
/-- One line of bytes 0, empty ones behind it. -/
def headed (n k : Nat) : List (List UInt8) := (empties n).set 0 (zeroB k)
@[simp] theorem length_empties (n : Nat) : (empties n).length = n := by simp [empties]
@[simp] theorem length_headed (n k : Nat) : (headed n k).length = n := by simp [headed]
theorem mem_headed {n k : Nat} {s : List UInt8} (h : s ∈ headed n k) : s = [] ∨ s = zeroB k := by
  rcases List.mem_or_eq_of_mem_set h with h | h
  · exact .inl (List.eq_of_mem_replicate h)
  · exact .inr h
theorem check_empties (n : Nat) : lcheckV (empties n) = if 2000 < n then 3 else 0 := by
  have h1 : (empties n).any hasEnd = false := by
    rw [← Bool.not_eq_true, List.any_eq_true]; rintro ⟨s, hs, h⟩
    rw [List.eq_of_mem_replicate hs] at h; cases h
  have h2 : (empties n).any tooLong = false := by
    rw [← Bool.not_eq_true, List.any_eq_true]; rintro ⟨s, hs, h⟩
    rw [List.eq_of_mem_replicate hs] at h; cases h
  unfold lcheckV
  rw [h1, h2]
  by_cases h : 2000 < n <;> simp [h]
theorem check_headed (n k : Nat) (hn : 0 < n) (hn2 : n ≤ 2000) : lcheckV (headed n k) = if 1000 < k then 3 else 0 := by
  have h1 : (headed n k).any hasEnd = false := by
    rw [← Bool.not_eq_true, List.any_eq_true]; rintro ⟨s, hs, h⟩
    rcases mem_headed hs with rfl | rfl
    · cases h
    · simp [hasEnd, zeroB] at h
  have h2 : (headed n k).any tooLong = decide (1000 < k) := by
    by_cases h : 1000 < k
    · simp only [h, decide_true]
      exact List.any_eq_true.2 ⟨zeroB k, List.mem_iff_getElem.2 ⟨0, by simpa using hn, by simp [headed]⟩, by simp [tooLong, zeroB]; exact h⟩
    · simp only [h, decide_false]
      rw [← Bool.not_eq_true, List.any_eq_true]; rintro ⟨s, hs, h3⟩
      rcases mem_headed hs with rfl | rfl
      · cases h3
      · simp [tooLong, zeroB] at h3; omega
  unfold lcheckV
  rw [h1, h2]
  have h3 : ¬ 2000 < n := by omega
  by_cases h : 1000 < k <;> simp [h, h3]
theorem made_one (z : Value) (n : Nat) (hz : z.cells = #[z]) : (madeCells z.cells (n * 1)).toList = List.replicate n z := by
  rw [hz]
  apply List.ext_getElem
  · simp [madeCells]
  · intro i h1 h2
    simp [madeCells]
    rw [Nat.mod_one]
    rfl
theorem made_lines (n : Nat) : (madeCells (Value.string ⟨#[]⟩).cells (n * 1)).toList = lv (empties n) := by
  rw [made_one _ n rfl]
  simp [lv, tx, empties]
theorem made_bytes (n : Nat) : (madeCells (Value.int .u8 0).cells (n * 1)).toList = List.replicate n (.int .u8 0) := made_one _ n rfl
theorem zero_string {w : World} {base g k : Nat} (h : w.ownsRow base 5 1 (.slice (some ⟨g, 0, none⟩) k k) k (List.replicate k (.int .u8 0))) :
    (convert 55 9 (.slice (some ⟨g, 0, none⟩) k k)).run Try.prog w = .ok (.string (tx (zeroB k))) w := by
  have := run_convert_bytes_arg (P := Try.prog) w 55 5 Try.underlying55 Try.underlying5 g 0 k k (List.replicate k 0) (by simp) (fun i hi => by
    rw [Nat.zero_add, h.cellAt i (by omega)]
    simp [hi]) 9 Try.underlying9
  rw [this]
  congr 2
  simp [strOfNums, tx, zeroB]
/-- What the splice answers. -/
theorem limits_splice (r k : Nat) (hr : r < 6) : spliceV (empties 1995) 3 1 (headed (r + 3) k) = if 1000 < k ∨ 2000 < 1997 + r then ([], 3) else ((empties 1995).take 3 ++ (headed (r + 3) k ++ (empties 1995).drop 4), 0) := by
  have hc := check_headed (r + 3) k (by omega) (by omega)
  unfold spliceV
  rw [length_empties, length_headed, hc]
  by_cases h : 1000 < k
  · simp only [h, if_true, true_or]
    rw [if_neg (by omega), if_pos (by left; decide)]
  · simp only [h, if_false, false_or]
    rw [if_neg (by omega)]
    by_cases h2 : 2000 < 1997 + r
    · rw [if_pos (by right; omega), if_pos h2]
    · rw [if_neg (by rintro (h3 | h3); · exact h3 rfl
                     omega), if_neg h2]
      rfl

theorem wpList_make_wanted {P : Program} (w : World) {ops : Array Oper} {rest : List Oper} {o : Oper} {a : Act} {Q : Exit → Act → World → Prop}
    (hg : Region.wanted o (yielded ops a.tmps) = true) (l c : Operand) (t : TypeId) (hop : o.op = Op.makeSlice t l c)
    (base : Nat) (e : TypeId) (i : TypeInfo) (z : Value) (size : Nat) (h1 : P.underlying t = some (.slice e)) (h2 : P.info? e = some i) (h3 : i.zero = some z) (h4 : i.size = size)
    (kl kc : IntKind) (L C : Int) (n : Nat) (hl : a.eval l = .int kl L) (hc : a.eval c = .int kc C) (hL : L = (n : Int)) (hC : C = (n : Int)) (b2 : i.bytes * n ≤ 281474976710656) (b3 : n ≤ maxLen) (b4 : base ≤ w.heap.size)
    (hK : ∀ w', w'.ownsRow base e size (.slice (some ⟨w.heap.size, 0, none⟩) n n) n (madeCells z.cells (n * size)).toList → w.grownBy w' none → wpList P ops Q rest (a.put o.dst (.slice (some ⟨w.heap.size, 0, none⟩) n n)) w') :
    wpList P ops Q (o :: rest) a w := by
  obtain ⟨w', hrun, r1, r2⟩ := run_make_full (P := P) w base t e i z size h1 h2 h3 h4 kl kc n b2 b3 b4
  subst hL
  subst hC
  unfold wpList
  rw [if_pos hg]
  left
  unfold Oper.wp
  simp [execOp, hop, hl, hc, hrun, Result.andThen]
  exact hK w' r1 r2
theorem new_no' (A : Option Addr) (n cap : Nat) (d : List (List UInt8)) (w : World) (hn : n = d.length) (hA : Rd w 1 A d.length (lv d)) (hd : d.length ≤ 1000000) (hl : ∀ s ∈ d, s.length ≤ 9223372036854775807) (hok : lcheckV d ≠ 0) :
    Calls Try.prog 13 #[.slice A n cap] w fun e w' => e = .returned (.pointer none) ∧ w = w' := by
  subst hn; exact new_no A cap d w hA hd hl hok
set_option maxRecDepth 100000 in
set_option maxHeartbeats 4000000 in
theorem piecesLimits_law (many bytes : Int) (hm : 0 ≤ many ∧ many ≤ 255) (hb : 0 ≤ bytes ∧ bytes ≤ 255) (w : World) :
    Calls Try.prog 9 #[.int .u8 many, .int .u8 bytes] w fun e w' => e = .returned (.bool true) ∧ Grows w w' := by
  obtain ⟨i0, hi, hz0, hz1, hz2⟩ := info_parts infoStr
  obtain ⟨i1, hj, hy0, hy1, hy2⟩ := info_parts infoByte
  obtain ⟨hm0, hm9⟩ := hm
  obtain ⟨hb0, hb9⟩ := hb
  obtain ⟨r, hr⟩ := Int.eq_ofNat_of_zero_le (show 0 ≤ many % 6 by omega)
  obtain ⟨t, ht⟩ := Int.eq_ofNat_of_zero_le (show 0 ≤ bytes % 4 by omega)
  have hr5 : r < 6 := by omega
  have ht5 : t < 4 := by omega
  go_enter Try.func9, Try.ntmps9
  go_wp2_with (first
    | (at_make; refine wpList_make_full _ rfl (.const (.int .i64 1995)) (.const (.int .i64 1995)) 22 rfl w.heap.size 9 i0 (.string ⟨#[]⟩) 1 Try.underlying22 hi hz0 hz1 .i64 .i64 _ _ 1995 rfl rfl (by omega) (by omega) (by rw [hz2]; omega) (by unfold maxLen; omega) (Nat.le_refl _) ?_; intro w0 hmade hg0; rw [made_lines] at hmade; have hb0 := (Below.refl w.heap.size w).grown hg0 (Nat.le_refl _) (fun k e => by cases e); have hs0 := hb0.size; clear hg0))
  have hrd0 := rd_own hmade
  (with_reducible refine (new_ptr (some ⟨w.heap.size, 0, none⟩) 1995 1995 (empties 1995) _ (by simp) hrd0 (by simp) (fun h => by cases h) (fun s hs => by rw [List.eq_of_mem_replicate hs]; simp) (by rw [check_empties]; simp)).mono ?_)
  rintro e w1 ⟨T, rfl, hT, hTL, hgT, -, -⟩
  have hgW : Grows w w1 := (Grows.of_below hb0).trans hgT
  have HT := Lib.hid hT
  have HTL := Lib.hid hTL
  have hs1 : (1997 : Int) + (r : Int) - 2000 = (r : Int) - 3 := by omega
  have hs2 : (r : Int) - 3 + 6 = (r : Int) + 3 := by omega
  have hbw := Below.refl w1.heap.size w1
  clear hrd0 hmade hb0 hgT hT hTL
  go_wp2_with (first
    | (at_make; refine wpList_make_full _ rfl (.tmp 24) (.tmp 24) 22 rfl w1.heap.size 9 i0 (.string ⟨#[]⟩) 1 Try.underlying22 hi hz0 hz1 .i64 .i64 _ _ (r + 3) rfl rfl (by omega) (by omega) (by rw [hz2]; omega) (by unfold maxLen; omega) (Nat.le_refl _) ?_; intro w2 hmade hg2; rw [made_lines] at hmade; have hb2 := hbw.grown hg2 (Nat.le_refl _) (fun k e => by cases e); have hs3 := hb2.size; clear hg2)
    | (at_make; refine wpList_make_full _ rfl (.tmp 27) (.tmp 27) 55 rfl w1.heap.size 5 i1 (.int .u8 0) 1 Try.underlying55 hj hy0 hy1 .i64 .i64 _ _ (998 + t) rfl rfl (by omega) (by omega) (by rw [hy2]; omega) (by unfold maxLen; omega) hs3 ?_; intro w3 hmade1 hg3; rw [made_bytes] at hmade1; have hown1 := hmade.kept hg3 (.inr (by simp [Value.ownBlock])); have hb3 := hb2.grown hg3 hs3 (fun k e => by cases e); have hcv := zero_string hmade1; have c1 := hown1.cellAt 0 (by omega); have f1 := hown1.frozenAt 0; rw [List.getElem?_eq_getElem (by simp [lv])] at c1; clear hg3))
  have hst := (hown1.stored 0 (.string (tx (zeroB (998 + t))))).1
  rw [lv_set, show (empties (r + 3)).set 0 (zeroB (998 + t)) = headed (r + 3) (998 + t) from rfl] at hst
  have hb4 := hb3.setCell (p := ⟨w1.heap.size, 0, none⟩) (Nat.le_refl _) (.string (tx (zeroB (998 + t))))
  have hrd := rd_own hst
  have hg4 := Grows.of_below hb4
  have hT4 := HT.out.grows hg4
  have hgW4 := hgW.trans hg4
  have hlh : (headed (r + 3) (998 + t)).length = r + 3 := by simp
  have hle : ∀ s ∈ headed (r + 3) (998 + t), s.length ≤ 9223372036854775807 := fun s hs => by
    rcases mem_headed hs with rfl | rfl
    · simp
    · simp [zeroB]; omega
  have hsp := limits_splice r (998 + t) hr5
  generalize w3.setCell ⟨w1.heap.size, 0, none⟩ (.string (tx (zeroB (998 + t)))) = W4 at *
  have HSP := Lib.hid hsp
  have HLE := Lib.hid hle
  clear hst hb4 hg4 hown1 hmade hmade1 hb2 hb3 c1 f1 hcv hbw hs1 hs2 hs3 hsp hle
  (with_reducible refine (splice_ptr T _ hT4 3 1 (some ⟨w1.heap.size, 0, none⟩) (r + 3) (r + 3) (headed (r + 3) (998 + t)) hlh.symm hrd (fun h => by cases h) (by omega) HLE.out (by unfold I64; omega) (by unfold I64; omega)).mono ?_)
  rw [HTL.out, HSP.out]
  have hor : (r ≤ 3 ∧ t ≤ 2) ∨ (r ≤ 3 ∧ 2 < t) ∨ 3 < r := by omega
  rcases hor with ⟨hr2, ht2⟩ | ⟨hr2, ht2⟩ | hr2
  · rw [if_neg (show ¬ (1000 < 998 + t ∨ 2000 < 1997 + r) by omega)]
    rintro e W5 ⟨v, rfl, -, hyes, hg5⟩
    obtain ⟨U, rfl, hU, hUL, -, -⟩ := hyes rfl
    have hul : U.L.length = 1997 + r := by rw [hUL]; simp; omega
    have HUL := Lib.hid hul
    have HU := Lib.hid hU
    have hgW5 := hgW4.trans hg5
    have e1 : ((1997 : Int) + (r : Int) == 1997 + (r : Int)) = true := by simp
    clear hyes hU hUL hul hg5 hT4 hrd
    go_wp2_with fail
    (with_reducible refine (len_ptr U _ HU.out).mono ?_)
    rw [HUL.out]
    rintro e w1 ⟨rfl, rfl⟩
    go_wp2_with (at_make; refine wpList_make_wanted _ (by rfl) (.tmp 70) (.tmp 70) 22 rfl W5.heap.size 9 i0 (.string ⟨#[]⟩) 1 Try.underlying22 hi hz0 hz1 .i64 .i64 _ _ (1997 + r) rfl rfl (by omega) (by omega) (by rw [hz2]; omega) (by unfold maxLen; omega) (Nat.le_refl _) ?_; intro w6 hmade6 hg6; rw [made_lines] at hmade6; have hb6 := (Below.refl W5.heap.size W5).grown hg6 (Nat.le_refl _) (fun k e => by cases e); clear hg6)
    have hrd6 := rd_own hmade6
    have hgW6 := hgW5.trans (Grows.of_below hb6)
    (with_reducible refine (new_ptr (some ⟨W5.heap.size, 0, none⟩) (1997 + r) (1997 + r) (empties (1997 + r)) _ (by simp) hrd6 (by simp; omega) (fun h => by cases h) (fun s hs => by rw [List.eq_of_mem_replicate hs]; simp) (by rw [check_empties, if_neg (by omega)])).mono ?_)
    rintro e w7 ⟨V, rfl, -, -, hg7, -, -⟩
    go_wp2_with fail
    (with_reducible refine (does_any _).mono ?_)
    rintro e w3 ⟨rfl, m7, rfl⟩
    go_wp2_with fail
    go_ret
    exact ⟨by first | rfl | (simp; done) | (simp; omega), (hgW6.trans hg7).more _⟩
  · rw [if_pos (show (1000 < 998 + t ∨ 2000 < 1997 + r) by omega)]
    rintro e W5 ⟨v, rfl, hno, -, hg5⟩
    obtain rfl := hno (by simp)
    have hgW5 := hgW4.trans hg5
    clear hno hg5 hT4 hrd
    go_wp2_with (at_make; refine wpList_make_wanted _ (by rfl) (.tmp 70) (.tmp 70) 22 rfl W5.heap.size 9 i0 (.string ⟨#[]⟩) 1 Try.underlying22 hi hz0 hz1 .i64 .i64 _ _ (1997 + r) rfl rfl (by omega) (by omega) (by rw [hz2]; omega) (by unfold maxLen; omega) (Nat.le_refl _) ?_; intro w6 hmade6 hg6; rw [made_lines] at hmade6; have hb6 := (Below.refl W5.heap.size W5).grown hg6 (Nat.le_refl _) (fun k e => by cases e); clear hg6)
    have hrd6 := rd_own hmade6
    have hgW6 := hgW5.trans (Grows.of_below hb6)
    (with_reducible refine (new_ptr (some ⟨W5.heap.size, 0, none⟩) (1997 + r) (1997 + r) (empties (1997 + r)) _ (by simp) hrd6 (by simp; omega) (fun h => by cases h) (fun s hs => by rw [List.eq_of_mem_replicate hs]; simp) (by rw [check_empties, if_neg (by omega)])).mono ?_)
    rintro e w7 ⟨V, rfl, -, -, hg7, -, -⟩
    go_wp2_with fail
    (with_reducible refine (does_any _).mono ?_)
    rintro e w3 ⟨rfl, m7, rfl⟩
    go_wp2_with fail
    go_ret
    exact ⟨by first | rfl | (simp; done) | (simp; omega), (hgW6.trans hg7).more _⟩
  · rw [if_pos (show (1000 < 998 + t ∨ 2000 < 1997 + r) by omega)]
    rintro e W5 ⟨v, rfl, hno, -, hg5⟩
    obtain rfl := hno (by simp)
    have hgW5 := hgW4.trans hg5
    clear hno hg5 hT4 hrd
    go_wp2_with (at_make; refine wpList_make_wanted _ (by rfl) (.tmp 70) (.tmp 70) 22 rfl W5.heap.size 9 i0 (.string ⟨#[]⟩) 1 Try.underlying22 hi hz0 hz1 .i64 .i64 _ _ (1997 + r) rfl rfl (by omega) (by omega) (by rw [hz2]; omega) (by unfold maxLen; omega) (Nat.le_refl _) ?_; intro w6 hmade6 hg6; rw [made_lines] at hmade6; have hb6 := (Below.refl W5.heap.size W5).grown hg6 (Nat.le_refl _) (fun k e => by cases e); clear hg6)
    have hrd6 := rd_own hmade6
    have hgW6 := hgW5.trans (Grows.of_below hb6)
    (with_reducible refine (new_no' (some ⟨W5.heap.size, 0, none⟩) (1997 + r) (1997 + r) (empties (1997 + r)) _ (by simp) hrd6 (by simp; omega) (fun s hs => by rw [List.eq_of_mem_replicate hs]; simp) (by rw [check_empties, if_pos (by omega)]; decide)).mono ?_)
    rintro e w7 ⟨rfl, rfl⟩
    go_wp2_with fail
    (with_reducible refine (does_any _).mono ?_)
    rintro e w3 ⟨rfl, m7, rfl⟩
    go_wp2_with fail
    go_ret
    exact ⟨by first | rfl | (simp; done) | (simp; omega), hgW6.more _⟩
end Go.Proofs.Ytblcggmbaofflaa
