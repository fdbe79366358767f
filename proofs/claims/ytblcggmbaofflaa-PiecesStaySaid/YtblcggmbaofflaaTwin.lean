/-
  inkhornlaw01.Great, Twin and Left, walked: for every seat whose code calls them.
-/
import Derived.Test.YtblcggmbaofflaaSame
namespace Go.Proofs.Ytblcggmbaofflaa
open Go.RowKit


/-- Bytes, each line's counted up to a bound. -/
def cutSum : List (List UInt8) → Int
  | [] => 0
  | a :: d => min (a.length : Int) 1099511627776 + cutSum d
theorem cutSum_append (a b : List (List UInt8)) : cutSum (a ++ b) = cutSum a + cutSum b := by
  induction a with
  | nil => simp [cutSum]
  | cons x a ih => simp only [List.cons_append, cutSum, ih]; omega
theorem cutSum_nonneg (d : List (List UInt8)) : 0 ≤ cutSum d := by
  induction d with
  | nil => simp [cutSum]
  | cons x a ih => simp only [cutSum]; omega
theorem cutSum_take (d : List (List UInt8)) (k : Nat) (h : k < d.length) : cutSum (d.take (k + 1)) = cutSum (d.take k) + min (d[k].length : Int) 1099511627776 := by
  rw [List.take_add_one, List.getElem?_eq_getElem h, cutSum_append]; simp [cutSum]
/-- All bytes. -/
def byteSum : List (List UInt8) → Nat
  | [] => 0
  | a :: d => a.length + byteSum d
theorem cutSum_small (d : List (List UInt8)) (n : Int) (hn : n < 1099511627776) (h : cutSum d ≤ n) : (byteSum d : Int) ≤ n ∧ cutSum d = byteSum d := by
  induction d generalizing n with
  | nil => simp [byteSum, cutSum] at *; exact h
  | cons x a ih =>
    simp only [cutSum] at h
    have h0 := cutSum_nonneg a
    have := ih (n - min (x.length : Int) 1099511627776) (by omega) (by omega)
    simp only [byteSum, cutSum]
    omega
theorem joinL_length (d : List (List UInt8)) : (joinL d).length = byteSum d + d.length := by
  induction d with
  | nil => rfl
  | cons a d ih => simp [joinL, byteSum, ih]; omega
theorem byteSum_mem (d : List (List UInt8)) : ∀ s ∈ d, s.length ≤ byteSum d := by
  induction d with
  | nil => simp
  | cons a d ih =>
    intro s hs
    rcases List.mem_cons.1 hs with rfl | hs
    · simp [byteSum]
    · have := ih s hs; simp [byteSum]; omega
/-- What Great answers. -/
def GreatPost (d : List (List UInt8)) (many bytes : Int) (w : World) (e : Ending) (w' : World) : Prop :=
  ∃ b, e = .returned (.bool b) ∧ (b = false → (d.length : Int) ≤ many ∧ (byteSum d : Int) ≤ bytes) ∧ w = w'

set_option maxHeartbeats 1000000 in
theorem great_any (A : Option Addr) (cap : Nat) (d : List (List UInt8)) (many bytes : Int) (w : World) (hA : Rd w 1 A d.length (lv d)) (hd : d.length ≤ 9223372036854775807) (hl : ∀ s ∈ d, s.length ≤ 9223372036854775807) (hm0 : 0 ≤ many) (hm9 : many ≤ 100000) (hb0 : 0 ≤ bytes) (hb9 : bytes ≤ 100000) :
    Calls Try.prog 10 #[.slice A d.length cap, .int .i64 many, .int .i64 bytes] w (GreatPost d many bytes w) := by
  have HL := Lib.hid hl
  clear hl
  by_cases h0 : many < d.length
  · go_enter Try.func10, Try.ntmps10
    go_wp2_with fail
    go_ret
    exact ⟨true, rfl, fun h => (by cases h), rfl⟩
  · go_enter Try.func10, Try.ntmps10
    go_wp2_with fail
    go_loopg [2, 7] d.length (fun q v i wr => ∃ (k : Nat) (r : Int), q + k = d.length ∧ i = .int .i64 k ∧ v = .int .i64 r ∧ wr = w ∧ 0 ≤ r ∧ r ≤ 100000 ∧ Hid (cutSum (d.take k) + r = bytes))
    case atStart => exact ⟨0, bytes, by omega, rfl, rfl, rfl, hb0, hb9, Lib.hid (by simp [cutSum])⟩
    case round =>
      obtain ⟨k, r, hq, rfl, rfl, rfl, hr0, hr9, HR⟩ := hrel
      have HQ := Lib.hid hq
      have hkl : k ≤ d.length := by omega
      clear hq
      by_cases h1 : k < d.length
      · obtain ⟨b, o, rfl, hb, ec⟩ := hA.line k h1
        have hlk := HL.out d[k] (List.getElem_mem h1)
        have hzk : (tx d[k]).size ≤ 9223372036854775807 := by simpa using hlk
        have HT := Lib.hid (cutSum_take d k h1)
        rcases Nat.lt_or_ge 1099511627776 d[k].length with h3 | h3
        · go_wp2_with fail
          go_ret
          exact ⟨true, rfl, fun h => (by cases h), rfl⟩
        · have e3 : min (d[k].length : Int) 1099511627776 = d[k].length := by omega
          have e4 : ((d[k].length : Int) ≤ 1099511627776) = True := by simp; omega
          have E3 := Lib.hid e3
          by_cases h2 : r < (d[k].length : Int)
          · clear e3
            go_wp2_with fail
            go_ret
            exact ⟨true, rfl, fun h => (by cases h), rfl⟩
          · clear e3
            go_wp2_with fail
            go_roundg (gk - 1)
            case measure => have := HQ.out; omega
            case rel => exact ⟨k + 1, _, by have := HQ.out; omega, by go_num, rfl, rfl, by omega, by omega, Lib.hid (by rw [HT.out, E3.out]; have := HR.out; omega)⟩
      · have HC := HR.out
        rw [List.take_of_length_le (by omega)] at HC
        have HS := Lib.hid (cutSum_small d bytes (by omega) (by omega))
        clear HC
        go_wp2_with fail
        go_ret
        exact ⟨false, rfl, fun _ => ⟨by omega, HS.out.1⟩, rfl⟩
/-- A twin: new memory with the lines, and a star behind them. -/
def TwinPost (d : List (List UInt8)) (w : World) (e : Ending) (w' : World) : Prop :=
  ∃ g cap, e = .returned (.slice (some ⟨g, 0, none⟩) d.length cap) ∧ d.length < cap ∧ cap ≤ 9223372036854775807 ∧ w'.ownsRow w.heap.size 9 1 (.slice (some ⟨g, 0, none⟩) (d.length + 1) cap) (d.length + 1) (lv (d ++ [[42]])) ∧ Grows w w'

set_option maxHeartbeats 1000000 in
theorem twin_any (A : Option Addr) (cap : Nat) (d : List (List UInt8)) (w : World) (hA : Rd w 1 A d.length (lv d)) (hd : d.length ≤ 1000000) (hnil : A = none → d.length = 0 ∧ cap = 0) :
    Calls Try.prog 12 #[.slice A d.length cap] w (TwinPost d w) := by
  obtain ⟨i0, hi, hz0, hz1, hz2⟩ := info_parts infoStr
  have NA := Lib.hid hnil
  clear hnil
  go_enter Try.func12, Try.ntmps12
  go_wp2_with (first
    | (at_make; refine wpList_make_own _ rfl (.const (.int .i64 0)) (.tmp 5) 22 rfl w.heap.size 9 i0 (.string ⟨#[]⟩) 1 Try.underlying22 hi hz0 hz1 .i64 .i64 _ (d.length + 1) rfl rfl (by omega) (by rw [hz2]; omega) (by unfold maxLen; omega) (Nat.le_refl _) ?_; intro w0 hmade hg0; have hb0 := (Below.refl w.heap.size w).grown hg0 (Nat.le_refl _) (fun k e => by cases e); have hs0 := hb0.size; have hA0 := hA.grows (Grows.of_below hb0); clear hg0)
    | (at_builtin; refine wpList_append_rd _ rfl (.tmp 6) (.tmp 7) 22 rfl w.heap.size 9 i0 (.string ⟨#[]⟩) 16 Try.underlying22 hi hz0 hz1 hz2 rfl _ _ _ rfl hmade A _ cap (lv d) rfl NA.out hA0 (lv_one _) (by unfold maxLen; omega) (by omega) hs0 ?_; intro v1 w1 hown1 hgrow1; simp only [Nat.zero_add, List.nil_append] at hown1; have hb1 := own_next hb0 hmade hgrow1; have hs1 := hb1.size; clear hgrow1)
    | (at_builtin; refine wpList_append_own _ rfl (.tmp 8) (.tmp 9) 22 rfl w.heap.size 9 i0 (.string ⟨#[]⟩) 1 16 Try.underlying22 hi hz0 hz1 hz2 rfl (by decide) _ _ _ rfl (hown1.alloc _) ⟨w1.heap.size, 0, none⟩ 1 1 [.string ⟨#[42]⟩] rfl rfl (cell_one_new _ _ _) (by simp [Value.oneCell']) (by unfold maxLen; omega) (by omega) (by simp; omega) ?_; intro v2 w2 hown2 hgrow2 _; have hb2 := own_below hb1 hown1 hgrow2; obtain ⟨g2, cap2, rfl⟩ := ownsRow_succ hown2; have hf2 := own_cap hown2))
  go_ret
  refine ⟨g2, cap2, rfl, by omega, hf2.2, ?_, Grows.of_below hb2⟩
  rw [← lv_append]
  exact hown2

/-- The lines of a twin. -/
theorem twin_rd {w : World} {base g cap : Nat} {d : List (List UInt8)} (h : w.ownsRow base 9 1 (.slice (some ⟨g, 0, none⟩) (d.length + 1) cap) (d.length + 1) (lv (d ++ [[42]]))) : Rd w 1 (some ⟨g, 0, none⟩) d.length (lv d) := by
  refine ⟨by simp [lv], fun hn => ⟨g, 0, rfl, (h.lt g rfl).2, fun j u hu => ?_⟩⟩
  have hj : j < d.length := by
    have := (List.getElem?_eq_some_iff.1 hu).1
    simpa [lv] using this
  rw [Nat.zero_add, h.cellAt j (by omega), ← lv_append, List.getElem?_append_left (by simpa [lv] using hj)]
  exact hu
theorem twin_star {w : World} {base g cap : Nat} {d : List (List UInt8)} (h : w.ownsRow base 9 1 (.slice (some ⟨g, 0, none⟩) (d.length + 1) cap) (d.length + 1) (lv (d ++ [[42]]))) : w.cell? ⟨g, d.length, none⟩ = some (.string ⟨#[42]⟩) := by
  rw [h.cellAt d.length (by omega), ← lv_append, List.getElem?_append_right (by simp [lv])]
  simp [lv, tx]
theorem own_grown {w w' : World} {base n : Nat} {v : Value} {xs : List Value} (h : w.ownsRow base 9 1 v n xs) (hb : Grows w w') : w'.ownsRow base 9 1 v n xs := own_grows h hb

set_option maxHeartbeats 1000000 in
theorem left_any (A : Option Addr) (g cap ca base : Nat) (d : List (List UInt8)) (w : World) (hA : Rd w 1 A d.length (lv d)) (hd : d.length ≤ 1000000) (hc : d.length < cap) (hc9 : cap ≤ 9223372036854775807)
    (hT : w.ownsRow base 9 1 (.slice (some ⟨g, 0, none⟩) (d.length + 1) cap) (d.length + 1) (lv (d ++ [[42]]))) :
    Calls Try.prog 14 #[.slice (some ⟨g, 0, none⟩) d.length cap, .slice A d.length ca] w fun e w' => e = .returned (.bool true) ∧ Grows w w' := by
  have hrd := twin_rd hT
  go_enter Try.func14, Try.ntmps14
  go_wp2_with fail
  (with_reducible refine (lawSame_at (some ⟨g, 0, none⟩) A cap ca _ _ d d _ hrd hA (by omega) (by omega) rfl rfl).mono ?_)
  rw [sameL_self]
  rintro e w1 ⟨rfl, m, rfl⟩
  have hs := twin_star (own_grown hT (Grows.of w m))
  have i1 : (d.length : Int) + 1 ≤ (cap : Int) := by omega
  have i2 : ((d.length : Int) + 1).toNat = d.length + 1 := by omega
  go_wp2_with fail
  go_ret
  exact ⟨rfl, Grows.of w m⟩
end Go.Proofs.Ytblcggmbaofflaa
