/-
  Lines: the law LinesLimits.
-/
import Derived.Test.YteabpdahhjfaiaaLinesBack
import Derived.Laws.BytesArg
namespace Go.Proofs.Yteabpdahhjfaiaa
open Go.RowKit

/-- Many empty lines, but for one. -/
def mostly (n i : Nat) (x : List UInt8) : List (List UInt8) := (List.replicate n []).set i x
theorem any_mostly (n i : Nat) (x : List UInt8) (p : List UInt8 → Bool) (h0 : p [] = false) (hi : i < n) : (mostly n i x).any p = p x := by
  unfold mostly
  cases hx : p x with
  | true => exact List.any_eq_true.2 ⟨x, List.mem_iff_getElem.2 ⟨i, by simpa using hi, by simp⟩, hx⟩
  | false =>
    rw [← Bool.not_eq_true, List.any_eq_true]
    rintro ⟨y, hy, h⟩
    rcases List.mem_or_eq_of_mem_set hy with h1 | h1
    · rw [List.eq_of_mem_replicate h1, h0] at h; cases h
    · rw [h1, hx] at h; cases h
/-- So many bytes 0. -/
def zeroB (k : Nat) : List UInt8 := List.replicate k 0
theorem check_mostly (n i k : Nat) (hi : i < n) : checkV (mostly n i (zeroB k)) = if 2000 < n ∨ 1000 < k then 3 else 0 := by
  have h1 : hasEnd (zeroB k) = false := by simp [hasEnd, zeroB]
  unfold checkV
  rw [any_mostly n i _ _ rfl hi, any_mostly n i _ _ rfl hi, h1]
  have h2 : tooLong (zeroB k) = decide (1000 < k) := by simp [tooLong, zeroB]
  have h3 : (mostly n i (zeroB k)).length = n := by simp [mostly]
  rw [h2, h3]
  by_cases a : 2000 < n <;> by_cases b : 1000 < k <;> simp [a, b]
theorem check_ended (d : List (List UInt8)) (i : Nat) (hi : i < d.length) : checkV (d.set i [97, 10, 98]) = 2 := by
  have : (d.set i [97, 10, 98]).any hasEnd = true := List.any_eq_true.2 ⟨[97, 10, 98], List.mem_iff_getElem.2 ⟨i, by simpa using hi, by simp⟩, by decide⟩
  simp [checkV, this]
theorem lv_set (d : List (List UInt8)) (i : Nat) (x : List UInt8) : (lv d).set i (.string (tx x)) = lv (d.set i x) := by
  simp [lv, List.map_set]
theorem made_one (z : Value) (n : Nat) (hz : z.cells = #[z]) : (madeCells z.cells (n * 1)).toList = List.replicate n z := by
  rw [hz]
  apply List.ext_getElem
  · simp [madeCells]
  · intro i h1 h2
    simp [madeCells]
    rw [Nat.mod_one]
    rfl
theorem made_lines (n : Nat) : (madeCells (Value.string ⟨#[]⟩).cells (n * 1)).toList = lv (List.replicate n []) := by
  rw [made_one _ n rfl]
  simp [lv, tx]
theorem made_bytes (n : Nat) : (madeCells (Value.int .u8 0).cells (n * 1)).toList = List.replicate n (.int .u8 0) := made_one _ n rfl
theorem zero_string {w : World} {base g k : Nat} (h : w.ownsRow base 5 1 (.slice (some ⟨g, 0, none⟩) k k) k (List.replicate k (.int .u8 0))) :
    (convert 36 9 (.slice (some ⟨g, 0, none⟩) k k)).run Try.prog w = .ok (.string (tx (zeroB k))) w := by
  have := run_convert_bytes_arg (P := Try.prog) w 36 5 Try.underlying36 Try.underlying5 g 0 k k (List.replicate k 0) (by simp) (fun i hi => by
    rw [Nat.zero_add, h.cellAt i (by omega)]
    simp [hi]) 9 Try.underlying9
  rw [this]
  congr 2
  simp [strOfNums, tx, zeroB]
theorem check_at (A : Option Addr) (cap n : Nat) (d : List (List UInt8)) (w : World) (hA : Rd w 1 A d.length (lv d)) (hn : n = d.length) (hd : d.length ≤ 9223372036854775807) (hl : ∀ s ∈ d, s.length ≤ 9223372036854775807) :
    Calls Try.prog 20 #[.slice A n cap] w fun e w' => e = .returned (.int .i64 (checkV d)) ∧ w = w' := by
  subst hn; exact check_any A cap d w hA hd hl
theorem rd_own {w : World} {base g n cap : Nat} {d : List (List UInt8)} (h : w.ownsRow base 9 1 (.slice (some ⟨g, 0, none⟩) n cap) n (lv d)) : Rd w 1 (some ⟨g, 0, none⟩) d.length (lv d) := by
  have hn : d.length = n := by have := h.1; simpa [lv] using this
  subst hn
  refine ⟨by simp [lv], fun _ => ⟨g, 0, rfl, (h.lt g rfl).2, fun j u hu => ?_⟩⟩
  have hj : j < d.length := by
    have := (List.getElem?_eq_some_iff.1 hu).1
    simpa [lv] using this
  rw [Nat.zero_add, h.cellAt j (by omega)]
  exact hu
theorem mem_mostly (n i : Nat) (x : List UInt8) (m : Nat) (hx : x.length ≤ m) : ∀ s ∈ mostly n i x, s.length ≤ m := by
  intro s hs
  rcases List.mem_or_eq_of_mem_set hs with h1 | h1
  · rw [List.eq_of_mem_replicate h1]; simp
  · rw [h1]; exact hx
theorem mem_set {d : List (List UInt8)} {i : Nat} (h : ∀ s ∈ d, s.length ≤ 9223372036854775807) : ∀ s ∈ d.set i [97, 10, 98], s.length ≤ 9223372036854775807 := by
  intro s hs
  rcases List.mem_or_eq_of_mem_set hs with h1 | h1
  · exact h s h1
  · rw [h1]; decide
set_option maxHeartbeats 1000000 in
theorem linesLimits_law (many bytes : Int) (hm : 0 ≤ many ∧ many ≤ 255) (hb : 0 ≤ bytes ∧ bytes ≤ 255) (w : World) :
    Calls Try.prog 9 #[.int .u8 many, .int .u8 bytes] w fun e w' => e = .returned (.bool true) ∧ Grows w w' := by
  obtain ⟨i0, hi, hz0, hz1, hz2⟩ := info_parts infoStr
  obtain ⟨i1, hj, hy0, hy1, hy2⟩ := info_parts infoByte
  obtain ⟨hm0, hm9⟩ := hm
  obtain ⟨hb0, hb9⟩ := hb
  obtain ⟨r, hr⟩ := Int.eq_ofNat_of_zero_le (show 0 ≤ many % 5 by omega)
  obtain ⟨t, ht⟩ := Int.eq_ofNat_of_zero_le (show 0 ≤ bytes % 5 by omega)
  have hr5 : r < 5 := by omega
  have ht5 : t < 5 := by omega
  go_enter Try.func9, Try.ntmps9
  go_wp2_with (first
    | (at_make; refine wpList_make_full _ rfl (.tmp 17) (.tmp 17) 22 rfl w.heap.size 9 i0 (.string ⟨#[]⟩) 1 Try.underlying22 hi hz0 hz1 .i64 .i64 _ _ (1998 + r) rfl rfl (by omega) (by omega) (by rw [hz2]; omega) (by unfold maxLen; omega) (Nat.le_refl _) ?_; intro w0 hmade hg0; rw [made_lines] at hmade; have hb0 := (Below.refl w.heap.size w).grown hg0 (Nat.le_refl _) (fun k e => by cases e); have hs0 := hb0.size; clear hg0)
    | (at_make; refine wpList_make_full _ rfl (.tmp 22) (.tmp 22) 36 rfl w.heap.size 5 i1 (.int .u8 0) 1 Try.underlying36 hj hy0 hy1 .i64 .i64 _ _ (998 + t) rfl rfl (by omega) (by omega) (by rw [hy2]; omega) (by unfold maxLen; omega) hs0 ?_; intro w1 hmade1 hg1; rw [made_bytes] at hmade1; have hown1 := hmade.kept hg1 (.inr (by simp [Value.ownBlock])); have hb1 := hb0.grown hg1 hs0 (fun k e => by cases e); have hcv := zero_string hmade1; have c1 := hown1.cellAt ((1998 + r) / 2) (by omega); have f1 := hown1.frozenAt ((1998 + r) / 2); rw [List.getElem?_eq_getElem (by simp [lv]; omega)] at c1; clear hg1))
  have hst := (hown1.stored ((1998 + r) / 2) (.string (tx (zeroB (998 + t))))).1
  rw [lv_set] at hst
  have hb2 := hb1.setCell (p := ⟨w.heap.size, (1998 + r) / 2, none⟩) (Nat.le_refl _) (.string (tx (zeroB (998 + t))))
  have hst2 := (hst.stored (1997 + r) (.string (tx [97, 10, 98]))).1
  rw [lv_set] at hst2
  have hb3 := hb2.setCell (p := ⟨w.heap.size, 1997 + r, none⟩) (Nat.le_refl _) (.string (tx [97, 10, 98]))
  have c2 := hst.cellAt (1997 + r) (by omega)
  have f2 := hst.frozenAt (1997 + r)
  rw [List.getElem?_eq_getElem (by simp [lv])] at c2
  change Calls _ _ _ _ _
  have hcm := check_mostly (1998 + r) ((1998 + r) / 2) (998 + t) (by omega)
  have HC := Lib.hid hcm
  clear hcm
  (with_reducible refine (check_at (some ⟨w.heap.size, 0, none⟩) (1998 + r) (1998 + r) (mostly (1998 + r) ((1998 + r) / 2) (zeroB (998 + t))) _ (rd_own hst) (by simp [mostly]) (by simp [mostly]; omega) (mem_mostly _ _ _ _ (by simp [zeroB]; omega))).mono ?_)
  rw [HC.out]
  rintro e w2 ⟨rfl, rfl⟩
  have hce := check_ended (mostly (1998 + r) ((1998 + r) / 2) (zeroB (998 + t))) (1997 + r) (by simp [mostly])
  have HD := Lib.hid hce
  clear hce
  generalize hW : w1.setCell ⟨w.heap.size, (1998 + r) / 2, none⟩ (.string (tx (zeroB (998 + t)))) = W at *
  have hor : (r ≤ 2 ∧ t ≤ 2) ∨ (r ≤ 2 ∧ 2 < t) ∨ 2 < r := by omega
  rcases hor with ⟨hr2, ht2⟩ | ⟨hr2, ht2⟩ | hr2
  case' inl => rw [if_neg (show ¬ (2000 < 1998 + r ∨ 1000 < 998 + t) by omega)]
  case' inr.inl => rw [if_pos (show (2000 < 1998 + r ∨ 1000 < 998 + t) by omega)]
  case' inr.inr => rw [if_pos (show (2000 < 1998 + r ∨ 1000 < 998 + t) by omega)]
  all_goals
    go_wp2_with fail
    change Calls _ _ _ (W.setCell ⟨w.heap.size, 1997 + r, none⟩ (.string (tx [97, 10, 98]))) _
    (with_reducible refine (check_at (some ⟨w.heap.size, 0, none⟩) (1998 + r) (1998 + r) ((mostly (1998 + r) ((1998 + r) / 2) (zeroB (998 + t))).set (1997 + r) [97, 10, 98]) _ (rd_own hst2) (by simp [mostly]) (by simp [mostly]; omega) (by exact mem_set (mem_mostly _ _ _ _ (by simp [zeroB]; omega)))).mono ?_)
    rw [HD.out]
    rintro e w2 ⟨rfl, rfl⟩
    go_wp2_with fail
    (with_reducible refine (does_any _).mono ?_)
    rintro e w3 ⟨rfl, m7, rfl⟩
    go_wp2_with fail
    go_ret
    exact ⟨by first | rfl | (simp; done) | (simp; omega), (Grows.of_below hb3).more _⟩
end Go.Proofs.Yteabpdahhjfaiaa
