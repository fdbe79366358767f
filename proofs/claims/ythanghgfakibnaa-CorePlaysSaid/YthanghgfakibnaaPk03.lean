/-
  Several texts of the proof: Check, Clone, PiecesPlain.
-/
import Derived.Test.YthanghgfakibnaaPk01
import Derived.Test.YthanghgfakibnaaPk02
import Derived.Lib.AppendZerosOnto
import Derived.Lib.Walk
import Derived.Lib.SliceRun
/-
  lines.Check, walked: for every seat whose code calls it.
-/
namespace Go.Proofs.Ythanghgfakibnaa
open Go.RowKit

/-- Has it a line's end within? -/
def hasEnd (s : List UInt8) : Bool := s.contains 10
def tooLong (s : List UInt8) : Bool := decide (1000 < s.length)
/-- May lines be? -/
def lcheckV (d : List (List UInt8)) : Int := if d.any hasEnd then 2 else if decide (2000 < d.length) || d.any tooLong then 3 else 0
set_option maxRecDepth 3000 in
theorem hasEnd_index (s : List UInt8) : decide (0 ≤ Lib.indexByte s 10) = hasEnd s := by
  unfold hasEnd
  by_cases h : 10 ∈ s
  · obtain ⟨a, b, rfl, ha⟩ : ∃ a b, s = a ++ 10 :: b ∧ 10 ∉ a := (cut_cases s).resolve_left (by simpa using h)
    rw [index_yes a b 10 ha]
    simp
  · rw [index_no s 10 h]
    simp [h]
set_option maxRecDepth 3000 in
set_option maxHeartbeats 400000 in
theorem check1_any (s : List UInt8) (w : World) : Calls Try.prog 70 #[.string (tx s)] w fun e w' => e = .returned (.bool (hasEnd s)) ∧ w = w' := by
  have H := Lib.hid (hasEnd_index s)
  go_enter Try.func70, Try.ntmps70
  go_wp2_with fail
  (with_reducible refine (Try.strings_Contains_one (tx s) 10 _).mono ?_)
  rw [tx_data, H.out]
  rintro e w' ⟨rfl, rfl⟩
  go_wp2_with fail
  go_ret
  exact ⟨rfl, rfl⟩
set_option maxRecDepth 3000 in
set_option maxHeartbeats 400000 in
theorem check2_any (s : List UInt8) (w : World) (hs : s.length ≤ 9223372036854775807) : Calls Try.prog 72 #[.string (tx s)] w fun e w' => e = .returned (.bool (tooLong s)) ∧ w = w' := by
  have hz : (tx s).size ≤ 9223372036854775807 := by simpa using hs
  have H : Hid (tooLong s = decide (1000 < s.length)) := Lib.hid rfl
  go_enter Try.func72, Try.ntmps72
  go_wp2_with fail
  go_ret
  exact ⟨by rw [H.out]; simp; omega, rfl⟩
/-- A place that is there just if b. -/
def SomeIdx (b : Bool) (w : World) (e : Ending) (w' : World) : Prop := ∃ r : Int, e = .returned (.int .i64 r) ∧ decide (0 ≤ r) = b ∧ w = w'
set_option maxRecDepth 3000 in
set_option maxHeartbeats 1000000 in
theorem index1_any (A : Option Addr) (cap : Nat) (d : List (List UInt8)) (w : World) (hA : Rd w 1 A d.length (lv d)) (hd : d.length ≤ 9223372036854775807) (hl : ∀ s ∈ d, s.length ≤ 9223372036854775807) :
    Calls Try.prog 90 #[.slice A d.length cap, .func (.func 70) #[] #[]] w (SomeIdx (d.any hasEnd) w) := by
  have HL := Lib.hid hl
  clear hl
  go_enter Try.func90, Try.ntmps90
  go_wp2_with fail
  go_loopg [5, 8] d.length (fun q _ i wr => ∃ k : Nat, q + k = d.length ∧ i = .int .i64 k ∧ wr = w ∧ ∀ s ∈ d.take k, hasEnd s = false)
  case atStart => exact ⟨0, by omega, rfl, rfl, by simp⟩
  case round =>
    obtain ⟨k, hq, rfl, rfl, hall⟩ := hrel
    have HQ := Lib.hid hq
    have HA := Lib.hid hall
    have hkl : k ≤ d.length := by omega
    clear hq hall
    by_cases h1 : k < d.length
    · obtain ⟨b, o, rfl, hb, ec⟩ := hA.line k h1
      cases h2 : hasEnd d[k] with
      | true =>
        have HV : Hid (d.any hasEnd = true) := Lib.hid (List.any_eq_true.2 ⟨_, List.getElem_mem h1, h2⟩)
        have H2 := Lib.hid h2
        clear h2
        go_wp2_with fail
        (with_reducible refine (check1_any d[k] _).mono ?_)
        rw [H2.out]
        rintro e w' ⟨rfl, rfl⟩
        go_wp2_with fail
        go_ret
        exact ⟨k, rfl, by rw [HV.out]; simp, rfl⟩
      | false =>
        have HV : Hid (∀ s ∈ d.take (k + 1), hasEnd s = false) := Lib.hid (by
          intro s hs
          rw [List.take_add_one, List.getElem?_eq_getElem h1, List.mem_append] at hs
          rcases hs with hs | hs
          · exact HA.out s hs
          · obtain rfl : s = d[k] := by simpa using hs
            exact h2)
        have H2 := Lib.hid h2
        clear h2
        go_wp2_with fail
        (with_reducible refine (check1_any d[k] _).mono ?_)
        rw [H2.out]
        rintro e w' ⟨rfl, rfl⟩
        go_wp2_with fail
        go_roundg (gk - 1)
        case measure => have := HQ.out; omega
        case rel => exact ⟨k + 1, by have := HQ.out; omega, by go_num, rfl, HV.out⟩
    · have HV : Hid (d.any hasEnd = false) := Lib.hid (by
        rw [← Bool.not_eq_true, List.any_eq_true]
        rintro ⟨s, hs, h⟩
        have := HA.out s (by rw [List.take_of_length_le (by omega)]; exact hs)
        rw [this] at h; cases h)
      go_wp2_with fail
      go_ret
      exact ⟨-1, rfl, by rw [HV.out]; rfl, rfl⟩
set_option maxRecDepth 3000 in
set_option maxHeartbeats 1000000 in
theorem contains1_any (A : Option Addr) (cap : Nat) (d : List (List UInt8)) (w : World) (hA : Rd w 1 A d.length (lv d)) (hd : d.length ≤ 9223372036854775807) (hl : ∀ s ∈ d, s.length ≤ 9223372036854775807) :
    Calls Try.prog 73 #[.slice A d.length cap, .func (.func 70) #[] #[]] w fun e w' => e = .returned (.bool (d.any hasEnd)) ∧ w = w' := by
  have HL := Lib.hid hl
  clear hl
  go_enter Try.func73, Try.ntmps73
  go_wp2_with fail
  (with_reducible refine (index1_any A cap d _ hA hd HL.out).mono ?_)
  rintro e w' ⟨r, rfl, hr, rfl⟩
  have HR := Lib.hid hr
  clear hr
  go_wp2_with fail
  go_ret
  exact ⟨by rw [← HR.out]; rfl, rfl⟩
set_option maxRecDepth 3000 in
set_option maxHeartbeats 1000000 in
theorem index2_any (A : Option Addr) (cap : Nat) (d : List (List UInt8)) (w : World) (hA : Rd w 1 A d.length (lv d)) (hd : d.length ≤ 9223372036854775807) (hl : ∀ s ∈ d, s.length ≤ 9223372036854775807) :
    Calls Try.prog 90 #[.slice A d.length cap, .func (.func 72) #[] #[]] w (SomeIdx (d.any tooLong) w) := by
  have HL := Lib.hid hl
  clear hl
  go_enter Try.func90, Try.ntmps90
  go_wp2_with fail
  go_loopg [5, 8] d.length (fun q _ i wr => ∃ k : Nat, q + k = d.length ∧ i = .int .i64 k ∧ wr = w ∧ ∀ s ∈ d.take k, tooLong s = false)
  case atStart => exact ⟨0, by omega, rfl, rfl, by simp⟩
  case round =>
    obtain ⟨k, hq, rfl, rfl, hall⟩ := hrel
    have HQ := Lib.hid hq
    have HA := Lib.hid hall
    have hkl : k ≤ d.length := by omega
    clear hq hall
    by_cases h1 : k < d.length
    · obtain ⟨b, o, rfl, hb, ec⟩ := hA.line k h1
      cases h2 : tooLong d[k] with
      | true =>
        have HV : Hid (d.any tooLong = true) := Lib.hid (List.any_eq_true.2 ⟨_, List.getElem_mem h1, h2⟩)
        have H2 := Lib.hid h2
        clear h2
        go_wp2_with fail
        (with_reducible refine (check2_any d[k] _ (HL.out _ (List.getElem_mem h1))).mono ?_)
        rw [H2.out]
        rintro e w' ⟨rfl, rfl⟩
        go_wp2_with fail
        go_ret
        exact ⟨k, rfl, by rw [HV.out]; simp, rfl⟩
      | false =>
        have HV : Hid (∀ s ∈ d.take (k + 1), tooLong s = false) := Lib.hid (by
          intro s hs
          rw [List.take_add_one, List.getElem?_eq_getElem h1, List.mem_append] at hs
          rcases hs with hs | hs
          · exact HA.out s hs
          · obtain rfl : s = d[k] := by simpa using hs
            exact h2)
        have H2 := Lib.hid h2
        clear h2
        go_wp2_with fail
        (with_reducible refine (check2_any d[k] _ (HL.out _ (List.getElem_mem h1))).mono ?_)
        rw [H2.out]
        rintro e w' ⟨rfl, rfl⟩
        go_wp2_with fail
        go_roundg (gk - 1)
        case measure => have := HQ.out; omega
        case rel => exact ⟨k + 1, by have := HQ.out; omega, by go_num, rfl, HV.out⟩
    · have HV : Hid (d.any tooLong = false) := Lib.hid (by
        rw [← Bool.not_eq_true, List.any_eq_true]
        rintro ⟨s, hs, h⟩
        have := HA.out s (by rw [List.take_of_length_le (by omega)]; exact hs)
        rw [this] at h; cases h)
      go_wp2_with fail
      go_ret
      exact ⟨-1, rfl, by rw [HV.out]; rfl, rfl⟩
set_option maxRecDepth 3000 in
set_option maxHeartbeats 1000000 in
theorem contains2_any (A : Option Addr) (cap : Nat) (d : List (List UInt8)) (w : World) (hA : Rd w 1 A d.length (lv d)) (hd : d.length ≤ 9223372036854775807) (hl : ∀ s ∈ d, s.length ≤ 9223372036854775807) :
    Calls Try.prog 73 #[.slice A d.length cap, .func (.func 72) #[] #[]] w fun e w' => e = .returned (.bool (d.any tooLong)) ∧ w = w' := by
  have HL := Lib.hid hl
  clear hl
  go_enter Try.func73, Try.ntmps73
  go_wp2_with fail
  (with_reducible refine (index2_any A cap d _ hA hd HL.out).mono ?_)
  rintro e w' ⟨r, rfl, hr, rfl⟩
  have HR := Lib.hid hr
  clear hr
  go_wp2_with fail
  go_ret
  exact ⟨by rw [← HR.out]; rfl, rfl⟩
set_option maxRecDepth 3000 in
set_option maxHeartbeats 1000000 in
theorem lcheck_any (A : Option Addr) (cap : Nat) (d : List (List UInt8)) (w : World) (hA : Rd w 1 A d.length (lv d)) (hd : d.length ≤ 9223372036854775807) (hl : ∀ s ∈ d, s.length ≤ 9223372036854775807) :
    Calls Try.prog 48 #[.slice A d.length cap] w fun e w' => e = .returned (.int .i64 (lcheckV d)) ∧ w = w' := by
  have HL := Lib.hid hl
  clear hl
  cases h1 : d.any hasEnd with
  | true =>
    have HV : Hid (lcheckV d = 2) := Lib.hid (by simp [lcheckV, h1])
    have H1 := Lib.hid h1
    clear h1
    go_enter Try.func48, Try.ntmps48
    go_wp2_with fail
    (with_reducible refine (contains1_any A cap d _ hA hd HL.out).mono ?_)
    rw [H1.out]
    rintro e w' ⟨rfl, rfl⟩
    go_wp2_with fail
    go_ret
    exact ⟨by rw [HV.out]; rfl, rfl⟩
  | false =>
    have H1 := Lib.hid h1
    by_cases h2 : 2000 < d.length
    · have HV : Hid (lcheckV d = 3) := Lib.hid (by simp [lcheckV, h1, h2])
      clear h1
      go_enter Try.func48, Try.ntmps48
      go_wp2_with fail
      (with_reducible refine (contains1_any A cap d _ hA hd HL.out).mono ?_)
      rw [H1.out]
      rintro e w' ⟨rfl, rfl⟩
      go_wp2_with fail
      go_ret
      exact ⟨by rw [HV.out]; rfl, rfl⟩
    · cases h3 : d.any tooLong with
      | true =>
        have HV : Hid (lcheckV d = 3) := Lib.hid (by simp [lcheckV, h1, h3])
        have H3 := Lib.hid h3
        clear h1 h3
        go_enter Try.func48, Try.ntmps48
        go_wp2_with fail
        (with_reducible refine (contains1_any A cap d _ hA hd HL.out).mono ?_)
        rw [H1.out]
        rintro e w' ⟨rfl, rfl⟩
        go_wp2_with fail
        (with_reducible refine (contains2_any A cap d _ hA hd HL.out).mono ?_)
        rw [H3.out]
        rintro e w' ⟨rfl, rfl⟩
        go_wp2_with fail
        go_ret
        exact ⟨by rw [HV.out]; rfl, rfl⟩
      | false =>
        have HV : Hid (lcheckV d = 0) := Lib.hid (by simp [lcheckV, h1, h2, h3])
        have H3 := Lib.hid h3
        clear h1 h3
        go_enter Try.func48, Try.ntmps48
        go_wp2_with fail
        (with_reducible refine (contains1_any A cap d _ hA hd HL.out).mono ?_)
        rw [H1.out]
        rintro e w' ⟨rfl, rfl⟩
        go_wp2_with fail
        (with_reducible refine (contains2_any A cap d _ hA hd HL.out).mono ?_)
        rw [H3.out]
        rintro e w' ⟨rfl, rfl⟩
        go_wp2_with fail
        go_ret
        exact ⟨by rw [HV.out]; rfl, rfl⟩
end Go.Proofs.Ythanghgfakibnaa

/-
  slices.Clone at a list of strings; parts of lines in memory.
-/
namespace Go.Proofs.Ythanghgfakibnaa
open Go.RowKit

/-- New memory that holds lines. -/
def NewLines (d : List (List UInt8)) (w : World) (e : Ending) (w' : World) : Prop := ∃ v, e = .returned v ∧ w'.ownsRow w.heap.size 9 1 v d.length (lv d) ∧ Grows w w'

set_option maxRecDepth 3000 in
theorem clone_any (A : Option Addr) (cap : Nat) (d : List (List UInt8)) (w : World) (hA : Rd w 1 A d.length (lv d)) (hd : d.length ≤ 8000000000000) (hnil : A = none → d.length = 0 ∧ cap = 0) :
    Calls Try.prog 43 #[.slice A d.length cap] w (NewLines d w) := by
  cases A with
  | none =>
    have h0 := (hnil rfl).1
    obtain rfl := List.eq_nil_of_length_eq_zero h0
    exact (Try.slices_Clone_string_nil _ _ w).mono fun e w' ⟨he, hw⟩ => ⟨_, he, World.ownsRow_nil _ _ _ _, hw ▸ Grows.refl _⟩
  | some a =>
    rcases Nat.eq_zero_or_pos d.length with h0 | h0
    · obtain rfl := List.eq_nil_of_length_eq_zero h0
      exact (Try.slices_Clone_string_zero a cap w).mono fun e w' ⟨v, he, hr, _, hb⟩ => ⟨v, he, hr, Grows.of_below hb⟩
    · obtain ⟨b, o, e, hb, hc⟩ := hA.2 h0
      injection e with e
      subst e
      have := Try.slices_Clone_string b o d.length cap (d.map tx) w (by simp) (by omega) (fun j hj => by
        have hj' : j < d.length := by simpa using hj
        rw [hc j (.string (tx d[j])) (by simp [lv, hj'])]
        simp [List.getD, hj'])
      exact this.mono fun e w' ⟨v, he, hr, _, hb⟩ => ⟨v, he, by simpa [lv, List.map_take, List.take_of_length_le] using hr, Grows.of_below hb⟩

/-- A part of what is to be laid one behind the other. -/
structure Part where
  A : Option Addr
  cap : Nat
  d : List (List UInt8)
def Part.val (p : Part) : Value := .slice p.A p.d.length p.cap
/-- It can be read. -/
def Part.ok (w : World) (p : Part) : Prop := Rd w 1 p.A p.d.length (lv p.d) ∧ (p.A = none → p.d.length = 0 ∧ p.cap = 0)
set_option maxRecDepth 3000 in
theorem Part.grows {w w' : World} {p : Part} (h : p.ok w) (hg : Grows w w') : p.ok w' := ⟨h.1.grows hg, h.2⟩
/-- All their lines. -/
def partsL : List Part → List (List UInt8)
  | [] => []
  | p :: ps => p.d ++ partsL ps
set_option maxRecDepth 3000 in
theorem partsL_append (a b : List Part) : partsL (a ++ b) = partsL a ++ partsL b := by
  induction a with
  | nil => rfl
  | cons p a ih => simp [partsL, ih]
set_option maxRecDepth 3000 in
theorem partsL_take (ps : List Part) (k : Nat) (h : k < ps.length) : partsL (ps.take (k + 1)) = partsL (ps.take k) ++ ps[k].d := by
  rw [List.take_add_one, List.getElem?_eq_getElem h, partsL_append]
  simp [partsL]
set_option maxRecDepth 3000 in
theorem partsL_le (ps : List Part) (k : Nat) : (partsL (ps.take k)).length ≤ (partsL ps).length := by
  conv => rhs; rw [← List.take_append_drop k ps, partsL_append]
  simp

end Go.Proofs.Ythanghgfakibnaa

/-
  Pieces: the plain law. Parts of a row of pieces, cut at numbers; splices of lists.
-/
namespace Go.Proofs.Ythanghgfakibnaa
open Go.RowKit

/-- The lines of a piece from one place on, up to another one. -/
def Part.cutAt (p : Part) (a b : Nat) : Part := ⟨p.A.map fun x => ⟨x.block, x.off + a, none⟩, b - a, (p.d.drop a).take (b - a)⟩
/-- The pieces of the lines behind the first f ones, up to the first t ones; n lines stand ahead of them. -/
def partsV : List Part → Nat → Nat → Nat → List Part
  | [], _, _, _ => []
  | p :: ps, n, f, t => if f - n < min (t - n) p.d.length then p.cutAt (f - n) (min (t - n) p.d.length) :: partsV ps (n + p.d.length) f t else partsV ps (n + p.d.length) f t
set_option maxRecDepth 3000 in
theorem partsV_lines (ps : List Part) : ∀ n f t, partsL (partsV ps n f t) = ((partsL ps).take (t - n)).drop (f - n) := by
  induction ps with
  | nil => intro n f t; simp [partsV, partsL]
  | cons p ps ih =>
    intro n f t
    have e : ((p.d ++ partsL ps).take (t - n)).drop (f - n) = (p.d.take (t - n)).drop (f - n) ++ ((partsL ps).take (t - (n + p.d.length))).drop (f - (n + p.d.length)) := by
      rw [List.take_append, List.drop_append]
      congr 1
      by_cases h : t - n < p.d.length
      · have : t - n - p.d.length = 0 := by omega
        rw [this, show t - (n + p.d.length) = 0 by omega]; simp
      · rw [show t - n - p.d.length = t - (n + p.d.length) by omega, List.length_take, Nat.min_eq_right (by omega), show f - n - p.d.length = f - (n + p.d.length) by omega]
    unfold partsV
    simp only [partsL]
    rw [e]
    split
    · rename_i h
      simp only [partsL, ih, Part.cutAt]
      congr 1
      rw [List.drop_take]
      by_cases h2 : t - n ≤ p.d.length
      · rw [Nat.min_eq_left h2]
      · rw [Nat.min_eq_right (by omega), List.take_of_length_le (by simp), List.take_of_length_le (by simp; omega)]
    · rename_i h
      rw [ih]
      have : (p.d.take (t - n)).drop (f - n) = [] := List.drop_eq_nil_of_le (by simp; omega)
      rw [this, List.nil_append]
set_option maxRecDepth 3000 in
theorem partsV_some (ps : List Part) : ∀ n f t, ∀ q ∈ partsV ps n f t, ∃ p ∈ ps, ∃ a b, a < b ∧ b ≤ p.d.length ∧ q = p.cutAt a b := by
  induction ps with
  | nil => intro n f t q hq; simp [partsV] at hq
  | cons p ps ih =>
    intro n f t q hq
    unfold partsV at hq
    split at hq
    · rename_i h
      rcases List.mem_cons.1 hq with rfl | hq
      · exact ⟨p, by simp, _, _, h, by omega, rfl⟩
      · obtain ⟨p', hp, r⟩ := ih _ _ _ q hq
        exact ⟨p', by simp [hp], r⟩
    · obtain ⟨p', hp, r⟩ := ih _ _ _ q hq
      exact ⟨p', by simp [hp], r⟩
set_option maxRecDepth 3000 in
theorem partsV_le (ps : List Part) : ∀ n f t, (partsV ps n f t).length ≤ ps.length := by
  induction ps with
  | nil => intro n f t; simp [partsV]
  | cons p ps ih =>
    intro n f t
    unfold partsV
    have := ih (n + p.d.length) f t
    split <;> simp <;> omega
set_option maxRecDepth 3000 in
theorem partsV_none (ps : List Part) : ∀ n f t, t ≤ n → partsV ps n f t = [] := by
  induction ps with
  | nil => intro n f t _; rfl
  | cons p ps ih =>
    intro n f t h
    unfold partsV
    rw [if_neg (by omega), ih _ _ _ (by omega)]
set_option maxRecDepth 3000 in
theorem partsV_two (ps : List Part) : ∀ n a b c, a ≤ b → (partsV ps n 0 a).length + (partsV ps n b c).length ≤ ps.length + 1 := by
  induction ps with
  | nil => intro n a b c _; simp [partsV]
  | cons p ps ih =>
    intro n a b c h
    by_cases h1 : a ≤ n + p.d.length
    · have e := partsV_none ps (n + p.d.length) 0 a h1
      have h3 := partsV_le ps (n + p.d.length) b c
      unfold partsV
      rw [e]
      split <;> split <;> simp <;> omega
    · have := ih (n + p.d.length) a b c h
      unfold partsV
      rw [if_neg (c := b - n < _) (by omega)]
      split <;> simp <;> omega
/-- Without the empty ones. -/
def fullV (ps : List Part) : List Part := ps.filter fun p => decide (0 < p.d.length)
set_option maxRecDepth 3000 in
theorem fullV_lines (ps : List Part) : partsL (fullV ps) = partsL ps := by
  induction ps with
  | nil => rfl
  | cons p ps ih =>
    by_cases h : 0 < p.d.length
    · have e : fullV (p :: ps) = p :: fullV ps := by simp [fullV, h]
      rw [e]; simp [partsL, ih]
    · have e : fullV (p :: ps) = fullV ps := by simp [fullV, h]
      have e2 : p.d = [] := List.eq_nil_of_length_eq_zero (by omega)
      rw [e, ih]; simp [partsL, e2]
set_option maxRecDepth 3000 in
theorem fullV_take (ps : List Part) (k : Nat) (h : k < ps.length) : fullV (ps.take (k + 1)) = fullV (ps.take k) ++ (if 0 < ps[k].d.length then [ps[k]] else []) := by
  rw [List.take_add_one, List.getElem?_eq_getElem h]
  unfold fullV
  rw [List.filter_append]
  by_cases h2 : 0 < ps[k].d.length <;> simp [h2]
set_option maxRecDepth 3000 in
theorem fullV_le (ps : List Part) : (fullV ps).length ≤ ps.length := List.length_filter_le _ _
set_option maxRecDepth 3000 in
theorem fullV_mem {ps : List Part} {p : Part} (h : p ∈ fullV ps) : p ∈ ps ∧ 0 < p.d.length := by simpa [fullV] using h
set_option maxRecDepth 3000 in
theorem full_count {ps : List Part} (h : ∀ p ∈ ps, 0 < p.d.length) : ps.length ≤ (partsL ps).length := by
  induction ps with
  | nil => simp
  | cons p ps ih =>
    have h1 := h p (by simp)
    have := ih (fun q hq => h q (by simp [hq]))
    simp [partsL]; omega
/-- What a splice answers. -/
def spliceV (d : List (List UInt8)) (at_ del : Int) (ins : List (List UInt8)) : List (List UInt8) × Int :=
  if at_ < 0 ∨ del < 0 ∨ (d.length : Int) < at_ ∨ (d.length : Int) - at_ < del ∨ lcheckV ins = 2 then ([], 2) else
  if lcheckV ins ≠ 0 ∨ 2000 < (d.length : Int) - del + ins.length then ([], 3) else
  (d.take at_.toNat ++ (ins ++ d.drop (at_.toNat + del.toNat)), 0)
set_option maxRecDepth 3000 in
theorem lcheckV_cases (d : List (List UInt8)) : lcheckV d = 0 ∨ lcheckV d = 2 ∨ lcheckV d = 3 := by
  unfold lcheckV; split
  · simp
  · split <;> simp
set_option maxRecDepth 3000 in
theorem lcheckV_good {d : List (List UInt8)} : lcheckV d = 0 ↔ d.length ≤ 2000 ∧ ∀ s ∈ d, hasEnd s = false ∧ s.length ≤ 1000 := by
  unfold lcheckV
  constructor
  · intro h
    split at h
    · cases h
    · rename_i h1
      split at h
      · cases h
      · rename_i h2
        simp only [Bool.or_eq_true, decide_eq_true_eq, not_or] at h2
        refine ⟨by omega, fun s hs => ⟨?_, ?_⟩⟩
        · cases h3 : hasEnd s
          · rfl
          · exact absurd (List.any_eq_true.2 ⟨s, hs, h3⟩) h1
        · apply Nat.le_of_not_lt
          intro h3
          exact h2.2 (List.any_eq_true.2 ⟨s, hs, by simpa [tooLong] using h3⟩)
  · rintro ⟨h1, h2⟩
    have e1 : d.any hasEnd = false := by
      rw [← Bool.not_eq_true, List.any_eq_true]
      rintro ⟨s, hs, h⟩
      rw [(h2 s hs).1] at h; cases h
    have e2 : d.any tooLong = false := by
      rw [← Bool.not_eq_true, List.any_eq_true]
      rintro ⟨s, hs, h⟩
      have := (h2 s hs).2
      simp [tooLong] at h; omega
    have e3 : ¬ 2000 < d.length := by omega
    simp [e1, e2, e3]
set_option maxRecDepth 3000 in
theorem spliceV_good {d ins : List (List UInt8)} {at_ del : Int} (hd : lcheckV d = 0) (h : (spliceV d at_ del ins).2 = 0) :
    0 ≤ at_ ∧ 0 ≤ del ∧ at_ + del ≤ d.length ∧ lcheckV ins = 0 ∧ (spliceV d at_ del ins).1 = d.take at_.toNat ++ (ins ++ d.drop (at_.toNat + del.toNat)) ∧ lcheckV (spliceV d at_ del ins).1 = 0 := by
  unfold spliceV at h ⊢
  split at h
  · cases h
  · rename_i h1
    split at h
    · cases h
    · rename_i h2
      rw [if_neg h1, if_neg h2]
      have hi : lcheckV ins = 0 := by
        apply Classical.byContradiction; intro h3; exact h2 (.inl h3)
      refine ⟨by omega, by omega, by omega, hi, rfl, ?_⟩
      rw [lcheckV_good] at hd hi ⊢
      refine ⟨?_, fun s hs => ?_⟩
      · simp; omega
      · rcases List.mem_append.1 hs with hs | hs
        · exact hd.2 s (List.mem_of_mem_take hs)
        · rcases List.mem_append.1 hs with hs | hs
          · exact hi.2 s hs
          · exact hd.2 s (List.mem_of_mem_drop hs)
end Go.Proofs.Ythanghgfakibnaa
