/-
  Chapter 17: the laws' own comparisons and bounds, walked.
-/
import Derived.Test.YthanghgfakibnaaPk14
import Derived.Test.YthanghgfakibnaaPk10
namespace Go.Proofs.Ythanghgfakibnaa
open Go.RowKit

set_option maxRecDepth 3000 in
set_option maxHeartbeats 400000 in
theorem lawLines_any (A B : Option Addr) (ca cb : Nat) (a b : List ByteArray) (w : World) (hA : Rd w 1 A a.length (a.map Value.string)) (hB : Rd w 1 B b.length (b.map Value.string)) (hca : a.length ≤ 9223372036854775807) (hcb : b.length ≤ 9223372036854775807) :
    Calls Try.prog 29 #[.slice A a.length ca, .slice B b.length cb] w fun e w' => e = .returned (.bool (sameV a b)) ∧ Grows w w' := by
  by_cases hl : a.length = b.length
  · have hl1 : ((a.length : Int) != (b.length : Int)) = false := by simp [hl]
    have hl2 : (a.length != b.length) = false := by simp [hl]
    have HL := Lib.hid hl
    have hle : a.length ≤ b.length := by omega
    have hge : b.length ≤ a.length := by omega
    clear hl
    go_enter Try.func29, Try.ntmps29
    go_wp2_with fail
    go_loopg [5] a.length (fun q i wr => ∃ k : Nat, q + k = a.length ∧ i = .int .i64 k ∧ Grows w wr ∧ ∀ j (ha : j < a.length) (hb : j < b.length), j < k → a[j] = b[j])
    case atStart => exact ⟨0, by omega, rfl, Grows.refl _, fun j _ _ h => absurd h (by omega)⟩
    case round =>
      obtain ⟨k, hk, rfl, hg, hall⟩ := hrel
      have HA := Lib.hid hall
      have HK := Lib.hid hk
      have hk' : k ≤ a.length := by omega
      clear hall hk
      by_cases h1 : k < a.length
      · have h1b : k < b.length := by omega
        obtain ⟨ba, oa, rfl, hba, ea⟩ := (hA.grows hg).str k h1
        obtain ⟨bb, ob, rfl, hbb, eb⟩ := (hB.grows hg).str k h1b
        have i0 : (0 : Int) ≤ (k : Int) := Int.natCast_nonneg _
        have i1 : (k : Int) < (a.length : Int) := by omega
        have i2 : (k : Int) < (b.length : Int) := by omega
        by_cases h2 : a[k] = b[k]
        · have h2' : (a[k].toList == b[k].toList) = true := str_eq h2
          have H2 := Lib.hid h2
          clear h2
          go_wp2_with fail
          go_quiet (fail)
          go_wp2_with fail
          go_roundg (gk - 1)
          case measure => have := HK.out; omega
          case rel =>
            refine ⟨k + 1, by have := HK.out; omega, by go_num, hg.drewN _, fun j ha hb h => ?_⟩
            by_cases e : j = k
            · subst e; exact H2.out
            · exact HA.out j ha hb (by omega)
        · have h2' : (a[k].toList == b[k].toList) = false := str_ne h2
          have HV := Lib.hid (sameV_at k h1 h1b h2)
          clear h2
          go_wp2_with fail
          go_quiet (fail)
          go_wp2_with fail
          go_ret
          exact ⟨by rw [HV.out]; rfl, hg.drewN _⟩
      · have HV := Lib.hid (sameV_all HL.out fun j ha hb => HA.out j ha hb (by omega))
        go_wp2_with fail
        go_ret
        exact ⟨by rw [HV.out]; rfl, hg⟩
  · have hl1 : ((a.length : Int) != (b.length : Int)) = true := by simp; omega
    have hl2 : (a.length != b.length) = true := by simp [hl]
    have HV := Lib.hid (sameV_len hl)
    clear hl
    go_enter Try.func29, Try.ntmps29
    go_wp2_with fail
    go_ret
    exact ⟨by rw [HV.out]; rfl, Grows.refl _⟩

set_option maxRecDepth 3000 in
theorem lawLines_at (A B : Option Addr) (ca cb na nb : Nat) (a b : List (List UInt8)) (w : World) (hA : Rd w 1 A a.length (lv a)) (hB : Rd w 1 B b.length (lv b)) (hca : a.length ≤ 9223372036854775807) (hcb : b.length ≤ 9223372036854775807) (ha : na = a.length) (hb : nb = b.length) : Calls Try.prog 29 #[.slice A na ca, .slice B nb cb] w fun e w' => e = .returned (.bool (sameL a b)) ∧ Grows w w' := by
  subst ha hb
  have := lawLines_any A B ca cb (a.map tx) (b.map tx) w (by simpa [lv] using hA) (by simpa [lv] using hB) (by simpa using hca) (by simpa using hcb)
  rw [sameV_tx] at this
  simpa using this
/-- Are texts of registers the same? -/
def rsame (a b : Rg) : Bool := (a.whole == b.whole) && sameL a.d b.d
set_option maxRecDepth 3000 in
theorem rsame_self (a : Rg) : rsame a a = true := by simp [rsame, sameL]
set_option maxRecDepth 3000 in
set_option maxHeartbeats 400000 in
theorem sameReg_any {ok ok' : Nat → Prop} (A B : Option Addr) (ca cb : Nat) (a b : Rg) (w : World) (ha : LRd ok w A ca a.d) (hb : LRd ok' w B cb b.d) (la : a.d.length ≤ 1000000) (lb : b.d.length ≤ 1000000) :
    Calls Try.prog 32 #[.agg #[.slice A a.d.length ca, .bool a.whole], .agg #[.slice B b.d.length cb, .bool b.whole]] w fun e w' => e = .returned (.bool (rsame a b)) ∧ Grows w w' := by
  have hra := ha.rd
  have hrb := hb.rd
  clear ha hb
  by_cases h : a.whole = b.whole
  · have h1 : (a.whole == b.whole) = true := by simp [h]
    have hV : Hid (rsame a b = sameL a.d b.d) := Lib.hid (by simp [rsame, h1])
    have h2 : (b.whole == b.whole) = true := by simp
    rw [h]
    clear h h1
    go_enter Try.func32, Try.ntmps32
    go_wp2_with fail
    (with_reducible refine (lawLines_at A B ca cb _ _ a.d b.d _ (hra.grows (((Grows.refl _).alloc _).alloc _)) (hrb.grows (((Grows.refl _).alloc _).alloc _)) (by omega) (by omega) rfl rfl).mono ?_)
    rintro e w1 ⟨rfl, m1, rfl⟩
    go_wp2_with fail
    go_ret
    exact ⟨by rw [hV.out]; rfl, by repeat' first | exact Grows.refl _ | refine Grows.more ?_ _ | refine Grows.alloc ?_ _⟩
  · have h1 : (a.whole == b.whole) = false := by simp [h]
    have hV : Hid (rsame a b = false) := Lib.hid (by simp [rsame, h1])
    clear h
    go_enter Try.func32, Try.ntmps32
    go_wp2_with fail
    go_ret
    exact ⟨by rw [hV.out]; rfl, by repeat' first | exact Grows.refl _ | refine Grows.more ?_ _ | refine Grows.alloc ?_ _⟩
/-- Are lines more than is looked at? -/
def bigL (d : List (List UInt8)) (m : Nat) : Bool := decide (m < d.length) || d.any fun s => decide (300 < s.length)
set_option maxRecDepth 3000 in
theorem bigL_no {d : List (List UInt8)} {m : Nat} (h : bigL d m = false) : d.length ≤ m ∧ ∀ s ∈ d, s.length ≤ 300 := by
  unfold bigL at h
  simp only [Bool.or_eq_false_iff, decide_eq_false_iff_not, List.any_eq_false, decide_eq_true_eq] at h
  exact ⟨by omega, fun s hs => by have := h.2 s hs; omega⟩
set_option maxRecDepth 3000 in
set_option maxHeartbeats 1000000 in
theorem beyondLines_any (A : Option Addr) (cap : Nat) (d : List (List UInt8)) (m : Nat) (w : World) (hA : Rd w 1 A d.length (lv d)) (hd : d.length ≤ 9223372036854775807) (hm : m ≤ 1000000) (hl : ∀ s ∈ d, s.length ≤ 9223372036854775807) :
    Calls Try.prog 25 #[.slice A d.length cap, .int .i64 m] w fun e w' => e = .returned (.bool (bigL d m)) ∧ w = w' := by
  have HL := Lib.hid hl
  clear hl
  by_cases h1 : m < d.length
  · have hV : Hid (bigL d m = true) := Lib.hid (by simp [bigL, h1])
    have h1' : (m : Int) < (d.length : Int) := by omega
    go_enter Try.func25, Try.ntmps25
    go_wp2_with fail
    go_ret
    exact ⟨by rw [hV.out]; rfl, rfl⟩
  · have h1' : ¬ (m : Int) < (d.length : Int) := by omega
    have hdm : d.length ≤ m := by omega
    have H1 := Lib.hid h1
    clear h1
    go_enter Try.func25, Try.ntmps25
    go_wp2_with fail
    go_loopg [5] d.length (fun q i wr => ∃ k : Nat, q + k = d.length ∧ i = .int .i64 k ∧ wr = w ∧ (d.take k).any (fun s => decide (300 < s.length)) = false)
    case atStart => exact ⟨0, by omega, rfl, rfl, rfl⟩
    case round =>
      obtain ⟨k, hq, rfl, rfl, hall⟩ := hrel
      have HQ := Lib.hid hq
      have HA := Lib.hid hall
      have hkl : k ≤ d.length := by omega
      clear hq hall
      by_cases h2 : k < d.length
      · obtain ⟨b, o, rfl, hb, ec⟩ := hA.line k h2
        have hlk := HL.out d[k] (List.getElem_mem h2)
        by_cases h3 : 300 < d[k].length
        · have hV : Hid (bigL d m = true) := Lib.hid (by
            unfold bigL
            rw [Bool.or_eq_true, List.any_eq_true]
            exact .inr ⟨_, List.getElem_mem h2, by simpa using h3⟩)
          have h3' : (300 : Int) < (d[k].length : Int) := by omega
          go_wp2_with fail
          go_ret
          exact ⟨by rw [hV.out]; rfl, rfl⟩
        · have h3' : ¬ (300 : Int) < (d[k].length : Int) := by omega
          have HT : Hid ((d.take (k + 1)).any (fun s => decide (300 < s.length)) = false) := Lib.hid (by
            rw [List.take_add_one, List.getElem?_eq_getElem h2, List.any_append, HA.out]
            simpa using h3)
          go_wp2_with fail
          go_roundg (gk - 1)
          case measure => have := HQ.out; omega
          case rel => exact ⟨k + 1, by have := HQ.out; omega, by go_num, rfl, HT.out⟩
      · have hV : Hid (bigL d m = false) := Lib.hid (by
          have := HA.out
          rw [List.take_of_length_le (by omega)] at this
          unfold bigL
          rw [this, decide_eq_false H1.out]
          rfl)
        go_wp2_with fail
        go_ret
        exact ⟨by rw [hV.out]; rfl, rfl⟩
end Go.Proofs.Ythanghgfakibnaa
