/-
  Several texts of the proof: Check, RegsPlain.
-/
import Derived.Test.YtkomggeionofbaaGreatDoorPk00
import Derived.Test.YtkomggeionofbaaGreatDoorPk06
set_option linter.unusedSimpArgs false
set_option linter.unusedVariables false
/-
  lines.Check, walked: for every seat whose code calls it.
-/
namespace Go.Proofs.YtkomggeionofbaaGreatDoor
open Go.RowKit

/-- Has it a line's end within? -/
def hasEnd (s : List UInt8) : Bool := s.contains 10
def tooLong (s : List UInt8) : Bool := decide (1000 < s.length)
/-- May lines be? -/
def lcheckV (d : List (List UInt8)) : Int := if d.any hasEnd then 2 else if decide (2000 < d.length) || d.any tooLong then 3 else 0
set_option maxRecDepth 3000 in
theorem hasEnd_index (s : List UInt8) : decide (0 ≤ Lib.indexByte s 10) = hasEnd s := by
  unfold hasEnd
  by_cases h : 10 ∈ s
  · obtain ⟨a, b, rfl, ha⟩ : ∃ a b, s = a ++ 10 :: b ∧ 10 ∉ a := (cut_cases s).resolve_left (by simpa using h)
    rw [index_yes a b 10 ha]
    simp
  · rw [index_no s 10 h]
    simp [h]
set_option maxRecDepth 3000 in
set_option maxHeartbeats 400000 in
theorem check1_any (s : List UInt8) (w : World) : Calls Tryz.prog 36 #[.string (tx s)] w fun e w' => e = .returned (.bool (hasEnd s)) ∧ w = w' := by
  have H := Lib.hid (hasEnd_index s)
  go_enter Tryz.func36, Tryz.ntmps36
  go_wp2_with fail
  (with_reducible refine (Tryz.strings_Contains_one (tx s) 10 _).mono ?_)
  rw [tx_data, H.out]
  rintro e w' ⟨rfl, rfl⟩
  go_wp2_with fail
  go_ret
  exact ⟨rfl, rfl⟩
set_option maxRecDepth 3000 in
set_option maxHeartbeats 400000 in
theorem check2_any (s : List UInt8) (w : World) (hs : s.length ≤ 9223372036854775807) : Calls Tryz.prog 38 #[.string (tx s)] w fun e w' => e = .returned (.bool (tooLong s)) ∧ w = w' := by
  have hz : (tx s).size ≤ 9223372036854775807 := by simpa using hs
  have H : Hid (tooLong s = decide (1000 < s.length)) := Lib.hid rfl
  go_enter Tryz.func38, Tryz.ntmps38
  go_wp2_with fail
  go_ret
  exact ⟨by rw [H.out]; simp; omega, rfl⟩
/-- A place that is there just if b. -/
def SomeIdx (b : Bool) (w : World) (e : Ending) (w' : World) : Prop := ∃ r : Int, e = .returned (.int .i64 r) ∧ decide (0 ≤ r) = b ∧ w = w'
set_option maxRecDepth 3000 in
set_option maxHeartbeats 1000000 in
theorem index1_any (A : Option Addr) (cap : Nat) (d : List (List UInt8)) (w : World) (hA : Rd w 1 A d.length (lv d)) (hd : d.length ≤ 9223372036854775807) (hl : ∀ s ∈ d, s.length ≤ 9223372036854775807) :
    Calls Tryz.prog 66 #[.slice A d.length cap, .func (.func 36) #[] #[]] w (SomeIdx (d.any hasEnd) w) := by
  have HL := Lib.hid hl
  clear hl
  go_enter Tryz.func66, Tryz.ntmps66
  go_wp2_with fail
  go_loopg [5, 8] d.length (fun q _ i wr => ∃ k : Nat, q + k = d.length ∧ i = .int .i64 k ∧ wr = w ∧ ∀ s ∈ d.take k, hasEnd s = false)
  case atStart => exact ⟨0, by omega, rfl, rfl, by simp⟩
  case round =>
    obtain ⟨k, hq, rfl, rfl, hall⟩ := hrel
    have HQ := Lib.hid hq
    have HA := Lib.hid hall
    have hkl : k ≤ d.length := by omega
    clear hq hall
    by_cases h1 : k < d.length
    · obtain ⟨b, o, rfl, hb, ec⟩ := hA.line k h1
      cases h2 : hasEnd d[k] with
      | true =>
        have HV : Hid (d.any hasEnd = true) := Lib.hid (List.any_eq_true.2 ⟨_, List.getElem_mem h1, h2⟩)
        have H2 := Lib.hid h2
        clear h2
        go_wp2_with fail
        (with_reducible refine (check1_any d[k] _).mono ?_)
        rw [H2.out]
        rintro e w' ⟨rfl, rfl⟩
        go_wp2_with fail
        go_ret
        exact ⟨k, rfl, by rw [HV.out]; simp, rfl⟩
      | false =>
        have HV : Hid (∀ s ∈ d.take (k + 1), hasEnd s = false) := Lib.hid (by
          intro s hs
          rw [List.take_add_one, List.getElem?_eq_getElem h1, List.mem_append] at hs
          rcases hs with hs | hs
          · exact HA.out s hs
          · obtain rfl : s = d[k] := by simpa using hs
            exact h2)
        have H2 := Lib.hid h2
        clear h2
        go_wp2_with fail
        (with_reducible refine (check1_any d[k] _).mono ?_)
        rw [H2.out]
        rintro e w' ⟨rfl, rfl⟩
        go_wp2_with fail
        go_roundg (gk - 1)
        case measure => have := HQ.out; omega
        case rel => exact ⟨k + 1, by have := HQ.out; omega, by go_num, rfl, HV.out⟩
    · have HV : Hid (d.any hasEnd = false) := Lib.hid (by
        rw [← Bool.not_eq_true, List.any_eq_true]
        rintro ⟨s, hs, h⟩
        have := HA.out s (by rw [List.take_of_length_le (by omega)]; exact hs)
        rw [this] at h; cases h)
      go_wp2_with fail
      go_ret
      exact ⟨-1, rfl, by rw [HV.out]; rfl, rfl⟩
set_option maxRecDepth 3000 in
set_option maxHeartbeats 1000000 in
theorem contains1_any (A : Option Addr) (cap : Nat) (d : List (List UInt8)) (w : World) (hA : Rd w 1 A d.length (lv d)) (hd : d.length ≤ 9223372036854775807) (hl : ∀ s ∈ d, s.length ≤ 9223372036854775807) :
    Calls Tryz.prog 39 #[.slice A d.length cap, .func (.func 36) #[] #[]] w fun e w' => e = .returned (.bool (d.any hasEnd)) ∧ w = w' := by
  have HL := Lib.hid hl
  clear hl
  go_enter Tryz.func39, Tryz.ntmps39
  go_wp2_with fail
  (with_reducible refine (index1_any A cap d _ hA hd HL.out).mono ?_)
  rintro e w' ⟨r, rfl, hr, rfl⟩
  have HR := Lib.hid hr
  clear hr
  go_wp2_with fail
  go_ret
  exact ⟨by rw [← HR.out]; rfl, rfl⟩
set_option maxRecDepth 3000 in
set_option maxHeartbeats 1000000 in
theorem index2_any (A : Option Addr) (cap : Nat) (d : List (List UInt8)) (w : World) (hA : Rd w 1 A d.length (lv d)) (hd : d.length ≤ 9223372036854775807) (hl : ∀ s ∈ d, s.length ≤ 9223372036854775807) :
    Calls Tryz.prog 66 #[.slice A d.length cap, .func (.func 38) #[] #[]] w (SomeIdx (d.any tooLong) w) := by
  have HL := Lib.hid hl
  clear hl
  go_enter Tryz.func66, Tryz.ntmps66
  go_wp2_with fail
  go_loopg [5, 8] d.length (fun q _ i wr => ∃ k : Nat, q + k = d.length ∧ i = .int .i64 k ∧ wr = w ∧ ∀ s ∈ d.take k, tooLong s = false)
  case atStart => exact ⟨0, by omega, rfl, rfl, by simp⟩
  case round =>
    obtain ⟨k, hq, rfl, rfl, hall⟩ := hrel
    have HQ := Lib.hid hq
    have HA := Lib.hid hall
    have hkl : k ≤ d.length := by omega
    clear hq hall
    by_cases h1 : k < d.length
    · obtain ⟨b, o, rfl, hb, ec⟩ := hA.line k h1
      cases h2 : tooLong d[k] with
      | true =>
        have HV : Hid (d.any tooLong = true) := Lib.hid (List.any_eq_true.2 ⟨_, List.getElem_mem h1, h2⟩)
        have H2 := Lib.hid h2
        clear h2
        go_wp2_with fail
        (with_reducible refine (check2_any d[k] _ (HL.out _ (List.getElem_mem h1))).mono ?_)
        rw [H2.out]
        rintro e w' ⟨rfl, rfl⟩
        go_wp2_with fail
        go_ret
        exact ⟨k, rfl, by rw [HV.out]; simp, rfl⟩
      | false =>
        have HV : Hid (∀ s ∈ d.take (k + 1), tooLong s = false) := Lib.hid (by
          intro s hs
          rw [List.take_add_one, List.getElem?_eq_getElem h1, List.mem_append] at hs
          rcases hs with hs | hs
          · exact HA.out s hs
          · obtain rfl : s = d[k] := by simpa using hs
            exact h2)
        have H2 := Lib.hid h2
        clear h2
        go_wp2_with fail
        (with_reducible refine (check2_any d[k] _ (HL.out _ (List.getElem_mem h1))).mono ?_)
        rw [H2.out]
        rintro e w' ⟨rfl, rfl⟩
        go_wp2_with fail
        go_roundg (gk - 1)
        case measure => have := HQ.out; omega
        case rel => exact ⟨k + 1, by have := HQ.out; omega, by go_num, rfl, HV.out⟩
    · have HV : Hid (d.any tooLong = false) := Lib.hid (by
        rw [← Bool.not_eq_true, List.any_eq_true]
        rintro ⟨s, hs, h⟩
        have := HA.out s (by rw [List.take_of_length_le (by omega)]; exact hs)
        rw [this] at h; cases h)
      go_wp2_with fail
      go_ret
      exact ⟨-1, rfl, by rw [HV.out]; rfl, rfl⟩
set_option maxRecDepth 3000 in
set_option maxHeartbeats 1000000 in
theorem contains2_any (A : Option Addr) (cap : Nat) (d : List (List UInt8)) (w : World) (hA : Rd w 1 A d.length (lv d)) (hd : d.length ≤ 9223372036854775807) (hl : ∀ s ∈ d, s.length ≤ 9223372036854775807) :
    Calls Tryz.prog 39 #[.slice A d.length cap, .func (.func 38) #[] #[]] w fun e w' => e = .returned (.bool (d.any tooLong)) ∧ w = w' := by
  have HL := Lib.hid hl
  clear hl
  go_enter Tryz.func39, Tryz.ntmps39
  go_wp2_with fail
  (with_reducible refine (index2_any A cap d _ hA hd HL.out).mono ?_)
  rintro e w' ⟨r, rfl, hr, rfl⟩
  have HR := Lib.hid hr
  clear hr
  go_wp2_with fail
  go_ret
  exact ⟨by rw [← HR.out]; rfl, rfl⟩
set_option maxRecDepth 3000 in
set_option maxHeartbeats 1000000 in
theorem lcheck_any (A : Option Addr) (cap : Nat) (d : List (List UInt8)) (w : World) (hA : Rd w 1 A d.length (lv d)) (hd : d.length ≤ 9223372036854775807) (hl : ∀ s ∈ d, s.length ≤ 9223372036854775807) :
    Calls Tryz.prog 20 #[.slice A d.length cap] w fun e w' => e = .returned (.int .i64 (lcheckV d)) ∧ w = w' := by
  have HL := Lib.hid hl
  clear hl
  cases h1 : d.any hasEnd with
  | true =>
    have HV : Hid (lcheckV d = 2) := Lib.hid (by simp [lcheckV, h1])
    have H1 := Lib.hid h1
    clear h1
    go_enter Tryz.func20, Tryz.ntmps20
    go_wp2_with fail
    (with_reducible refine (contains1_any A cap d _ hA hd HL.out).mono ?_)
    rw [H1.out]
    rintro e w' ⟨rfl, rfl⟩
    go_wp2_with fail
    go_ret
    exact ⟨by rw [HV.out]; rfl, rfl⟩
  | false =>
    have H1 := Lib.hid h1
    by_cases h2 : 2000 < d.length
    · have HV : Hid (lcheckV d = 3) := Lib.hid (by simp [lcheckV, h1, h2])
      clear h1
      go_enter Tryz.func20, Tryz.ntmps20
      go_wp2_with fail
      (with_reducible refine (contains1_any A cap d _ hA hd HL.out).mono ?_)
      rw [H1.out]
      rintro e w' ⟨rfl, rfl⟩
      go_wp2_with fail
      go_ret
      exact ⟨by rw [HV.out]; rfl, rfl⟩
    · cases h3 : d.any tooLong with
      | true =>
        have HV : Hid (lcheckV d = 3) := Lib.hid (by simp [lcheckV, h1, h3])
        have H3 := Lib.hid h3
        clear h1 h3
        go_enter Tryz.func20, Tryz.ntmps20
        go_wp2_with fail
        (with_reducible refine (contains1_any A cap d _ hA hd HL.out).mono ?_)
        rw [H1.out]
        rintro e w' ⟨rfl, rfl⟩
        go_wp2_with fail
        (with_reducible refine (contains2_any A cap d _ hA hd HL.out).mono ?_)
        rw [H3.out]
        rintro e w' ⟨rfl, rfl⟩
        go_wp2_with fail
        go_ret
        exact ⟨by rw [HV.out]; rfl, rfl⟩
      | false =>
        have HV : Hid (lcheckV d = 0) := Lib.hid (by simp [lcheckV, h1, h2, h3])
        have H3 := Lib.hid h3
        clear h1 h3
        go_enter Tryz.func20, Tryz.ntmps20
        go_wp2_with fail
        (with_reducible refine (contains1_any A cap d _ hA hd HL.out).mono ?_)
        rw [H1.out]
        rintro e w' ⟨rfl, rfl⟩
        go_wp2_with fail
        (with_reducible refine (contains2_any A cap d _ hA hd HL.out).mono ?_)
        rw [H3.out]
        rintro e w' ⟨rfl, rfl⟩
        go_wp2_with fail
        go_ret
        exact ⟨by rw [HV.out]; rfl, rfl⟩
end Go.Proofs.YtkomggeionofbaaGreatDoor

/-
  Registers, in plain words: what each letter has, and how it changes.
-/
namespace Go.Proofs.YtkomggeionofbaaGreatDoor
open Go.RowKit

/-- A register's text. -/
structure Rg where
  d : List (List UInt8)
  whole : Bool
/-- None. -/
def rg0 : Rg := ⟨[], false⟩
/-- What each letter has. -/
abbrev RS := Int → Option Rg
def rsSet (S : RS) (k : Int) (x : Rg) : RS := fun j => if j = k then some x else S j
/-- May a register have it? -/
def rcheck (x : Rg) : Bool := decide (0 < x.d.length) && (lcheckV x.d == 0)
/-- What is laid may be. -/
def RGood (S : RS) : Prop := ∀ k x, S k = some x → rcheck x = true
set_option maxRecDepth 3000 in
theorem RGood.set {S : RS} (h : RGood S) (k : Int) {x : Rg} (hx : rcheck x = true) : RGood (rsSet S k x) := by
  intro j y hy
  unfold rsSet at hy
  split at hy
  · cases hy; exact hx
  · exact h j y hy
set_option maxRecDepth 3000 in
theorem rcheck_len {x : Rg} (h : rcheck x = true) : 0 < x.d.length ∧ x.d.length ≤ 2000 ∧ ∀ s ∈ x.d, s.length ≤ 1000 := by
  unfold rcheck lcheckV at h
  simp only [Bool.and_eq_true, decide_eq_true_eq] at h
  obtain ⟨h1, h2⟩ := h
  refine ⟨h1, ?_⟩
  split at h2
  · simp at h2
  · split at h2
    · simp at h2
    · rename_i h3
      simp only [Bool.or_eq_true, decide_eq_true_eq, List.any_eq_true, not_or, not_exists, not_and] at h3
      refine ⟨by omega, fun s hs => ?_⟩
      have := h3.2 s hs
      simp [tooLong] at this
      omega
set_option maxRecDepth 3000 in
theorem rcheck_fits {x : Rg} (h : rcheck x = true) : x.d.length ≤ 2000 ∧ ∀ s ∈ x.d, s.length ≤ 1000 := (rcheck_len h).2
set_option maxRecDepth 3000 in
theorem RGood.getD {S : RS} (h : RGood S) (k : Int) : ((S k).getD rg0).d.length ≤ 2000 ∧ ∀ s ∈ ((S k).getD rg0).d, s.length ≤ 1000 := by
  cases hk : S k with
  | none => exact ⟨by simp [rg0], by simp [rg0]⟩
  | some x => exact rcheck_fits (h _ _ hk)
end Go.Proofs.YtkomggeionofbaaGreatDoor
