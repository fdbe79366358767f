/-
  Lists of strings in memory, and what compares them.
-/
import Derived.Test.YteabpdahhjfaiaaKit
import Derived.Deep.LoopGhost
namespace Go.Proofs.Yteabpdahhjfaiaa
open Go.RowKit

/-- The value v is a list of strings, and reads as ss. -/
def Strs (w : World) (v : Value) (ss : List ByteArray) : Prop :=
  ∃ (A : Option Addr) (cap : Nat), v = .slice A ss.length cap ∧ ss.length ≤ cap ∧ cap ≤ 9223372036854775807 ∧ Rd w 1 A ss.length (ss.map Value.string)
theorem Strs.grows {w w' : World} {v : Value} {ss : List ByteArray} (h : Strs w v ss) (hg : Grows w w') : Strs w' v ss := by
  obtain ⟨A, cap, e, h1, h2, h3⟩ := h
  exact ⟨A, cap, e, h1, h2, h3.grows hg⟩
theorem Strs.below {w w' : World} {v : Value} {ss : List ByteArray} (h : Strs w v ss) (hg : Below w.heap.size w w') : Strs w' v ss := h.grows (Grows.of_below hg)
theorem Strs.nil_ (w : World) (A : Option Addr) : Strs w (.slice A 0 0) [] := ⟨A, 0, rfl, Nat.le_refl _, by omega, Rd.nil_⟩
/-- One of them. -/
theorem Rd.str {w : World} {A : Option Addr} {ss : List ByteArray} (h : Rd w 1 A ss.length (ss.map Value.string)) (k : Nat) (hk : k < ss.length) : ∃ b o, A = some ⟨b, o, none⟩ ∧ b < w.heap.size ∧ w.cell? ⟨b, o + k, none⟩ = some (.string ss[k]) := by
  obtain ⟨b, o, e, hb, hc⟩ := h.at_ (j := k) (by simpa using hk)
  exact ⟨b, o, e, hb, by simpa using hc⟩
/-- Strings that a call has laid itself. -/
theorem Strs.of_own {w : World} {base : Nat} {v : Value} {ss : List ByteArray} (h : w.ownsRow base 9 1 v ss.length (ss.map Value.string)) : Strs w v ss := by
  obtain ⟨_, h⟩ := h
  rcases h with ⟨rfl, h0⟩ | ⟨g, cap, cur, rfl, _, hg, hc, hm, hs, ht⟩
  · obtain rfl := List.eq_nil_of_length_eq_zero h0
    exact Strs.nil_ w none
  · refine ⟨some ⟨g, 0, none⟩, cap, rfl, hc, hm, by simp, fun _ => ⟨g, 0, rfl, (Array.getElem?_eq_some_iff.1 hg).1, fun j u hu => ?_⟩⟩
    rw [cell_of_row w g _ cur _ _ hg, Nat.zero_add]
    rw [← ht, List.getElem?_take] at hu
    split at hu
    · simpa using hu
    · cases hu

theorem str_eq {a b : ByteArray} (h : a = b) : (a.toList == b.toList) = true := by rw [h]; simp
theorem str_ne {a b : ByteArray} (h : a ≠ b) : (a.toList == b.toList) = false := by
  rw [beq_eq_false_iff_ne, ByteArray.toList_eq, ByteArray.toList_eq]
  exact fun e => h (WideShapes.bytes_inj e)
/-- Are they the same? -/
def sameV (a b : List ByteArray) : Bool := decide (a = b)
theorem sameV_len {a b : List ByteArray} (h : a.length ≠ b.length) : sameV a b = false := by
  simp only [sameV, decide_eq_false_iff_not]; rintro rfl; exact h rfl
theorem sameV_at {a b : List ByteArray} (k : Nat) (ha : k < a.length) (hb : k < b.length) (h : a[k] ≠ b[k]) : sameV a b = false := by
  simp only [sameV, decide_eq_false_iff_not]; rintro rfl; exact h rfl
theorem sameV_all {a b : List ByteArray} (h : a.length = b.length) (h2 : ∀ k (ha : k < a.length) (hb : k < b.length), a[k] = b[k]) : sameV a b = true := by
  simp only [sameV, decide_eq_true_eq]
  exact List.ext_getElem h h2


set_option maxHeartbeats 400000 in
theorem lawSame_any (A B : Option Addr) (ca cb : Nat) (a b : List ByteArray) (w : World) (hA : Rd w 1 A a.length (a.map Value.string)) (hB : Rd w 1 B b.length (b.map Value.string)) (hca : a.length ≤ 9223372036854775807) (hcb : b.length ≤ 9223372036854775807) :
    Calls Try.prog 12 #[.slice A a.length ca, .slice B b.length cb] w fun e w' => e = .returned (.bool (sameV a b)) ∧ Grows w w' := by
  by_cases hl : a.length = b.length
  · have hl1 : ((a.length : Int) != (b.length : Int)) = false := by simp [hl]
    have hl2 : (a.length != b.length) = false := by simp [hl]
    have HL := Lib.hid hl
    have hle : a.length ≤ b.length := by omega
    have hge : b.length ≤ a.length := by omega
    clear hl
    go_enter Try.func12, Try.ntmps12
    go_wp2_with fail
    go_loopg [5] a.length (fun q i wr => ∃ k : Nat, q + k = a.length ∧ i = .int .i64 k ∧ Grows w wr ∧ ∀ j (ha : j < a.length) (hb : j < b.length), j < k → a[j] = b[j])
    case atStart => exact ⟨0, by omega, rfl, Grows.refl _, fun j _ _ h => absurd h (by omega)⟩
    case round =>
      obtain ⟨k, hk, rfl, hg, hall⟩ := hrel
      have HA := Lib.hid hall
      have HK := Lib.hid hk
      have hk' : k ≤ a.length := by omega
      clear hall hk
      by_cases h1 : k < a.length
      · have h1b : k < b.length := by omega
        obtain ⟨ba, oa, rfl, hba, ea⟩ := (hA.grows hg).str k h1
        obtain ⟨bb, ob, rfl, hbb, eb⟩ := (hB.grows hg).str k h1b
        have i0 : (0 : Int) ≤ (k : Int) := Int.natCast_nonneg _
        have i1 : (k : Int) < (a.length : Int) := by omega
        have i2 : (k : Int) < (b.length : Int) := by omega
        by_cases h2 : a[k] = b[k]
        · have h2' : (a[k].toList == b[k].toList) = true := str_eq h2
          have H2 := Lib.hid h2
          clear h2
          go_wp2_with fail
          go_quiet (fail)
          go_wp2_with fail
          go_roundg (gk - 1)
          case measure => have := HK.out; omega
          case rel =>
            refine ⟨k + 1, by have := HK.out; omega, by go_num, hg.drewN _, fun j ha hb h => ?_⟩
            by_cases e : j = k
            · subst e; exact H2.out
            · exact HA.out j ha hb (by omega)
        · have h2' : (a[k].toList == b[k].toList) = false := str_ne h2
          have HV := Lib.hid (sameV_at k h1 h1b h2)
          clear h2
          go_wp2_with fail
          go_quiet (fail)
          go_wp2_with fail
          go_ret
          exact ⟨by rw [HV.out]; rfl, hg.drewN _⟩
      · have HV := Lib.hid (sameV_all HL.out fun j ha hb => HA.out j ha hb (by omega))
        go_wp2_with fail
        go_ret
        exact ⟨by rw [HV.out]; rfl, hg⟩
  · have hl1 : ((a.length : Int) != (b.length : Int)) = true := by simp; omega
    have hl2 : (a.length != b.length) = true := by simp [hl]
    have HV := Lib.hid (sameV_len hl)
    clear hl
    go_enter Try.func12, Try.ntmps12
    go_wp2_with fail
    go_ret
    exact ⟨by rw [HV.out]; rfl, Grows.refl _⟩

set_option maxHeartbeats 400000 in
theorem refSame_any (A B : Option Addr) (ca cb : Nat) (a b : List ByteArray) (w : World) (hA : Rd w 1 A a.length (a.map Value.string)) (hB : Rd w 1 B b.length (b.map Value.string)) (hca : a.length ≤ 9223372036854775807) (hcb : b.length ≤ 9223372036854775807) :
    Calls Try.prog 16 #[.slice A a.length ca, .slice B b.length cb] w fun e w' => e = .returned (.bool (sameV a b)) ∧ Grows w w' := by
  by_cases hl : a.length = b.length
  · have hl1 : ((a.length : Int) != (b.length : Int)) = false := by simp [hl]
    have hl2 : (a.length != b.length) = false := by simp [hl]
    have HL := Lib.hid hl
    have hle : a.length ≤ b.length := by omega
    have hge : b.length ≤ a.length := by omega
    clear hl
    go_enter Try.func16, Try.ntmps16
    go_wp2_with fail
    go_loopg [5] a.length (fun q i wr => ∃ k : Nat, q + k = a.length ∧ i = .int .i64 k ∧ Grows w wr ∧ ∀ j (ha : j < a.length) (hb : j < b.length), j < k → a[j] = b[j])
    case atStart => exact ⟨0, by omega, rfl, Grows.refl _, fun j _ _ h => absurd h (by omega)⟩
    case round =>
      obtain ⟨k, hk, rfl, hg, hall⟩ := hrel
      have HA := Lib.hid hall
      have HK := Lib.hid hk
      have hk' : k ≤ a.length := by omega
      clear hall hk
      by_cases h1 : k < a.length
      · have h1b : k < b.length := by omega
        obtain ⟨ba, oa, rfl, hba, ea⟩ := (hA.grows hg).str k h1
        obtain ⟨bb, ob, rfl, hbb, eb⟩ := (hB.grows hg).str k h1b
        have i0 : (0 : Int) ≤ (k : Int) := Int.natCast_nonneg _
        have i1 : (k : Int) < (a.length : Int) := by omega
        have i2 : (k : Int) < (b.length : Int) := by omega
        by_cases h2 : a[k] = b[k]
        · have h2' : (a[k].toList == b[k].toList) = true := str_eq h2
          have H2 := Lib.hid h2
          clear h2
          go_wp2_with fail
          go_quiet (fail)
          go_wp2_with fail
          go_roundg (gk - 1)
          case measure => have := HK.out; omega
          case rel =>
            refine ⟨k + 1, by have := HK.out; omega, by go_num, hg.drewN _, fun j ha hb h => ?_⟩
            by_cases e : j = k
            · subst e; exact H2.out
            · exact HA.out j ha hb (by omega)
        · have h2' : (a[k].toList == b[k].toList) = false := str_ne h2
          have HV := Lib.hid (sameV_at k h1 h1b h2)
          clear h2
          go_wp2_with fail
          go_quiet (fail)
          go_wp2_with fail
          go_ret
          exact ⟨by rw [HV.out]; rfl, hg.drewN _⟩
      · have HV := Lib.hid (sameV_all HL.out fun j ha hb => HA.out j ha hb (by omega))
        go_wp2_with fail
        go_ret
        exact ⟨by rw [HV.out]; rfl, hg⟩
  · have hl1 : ((a.length : Int) != (b.length : Int)) = true := by simp; omega
    have hl2 : (a.length != b.length) = true := by simp [hl]
    have HV := Lib.hid (sameV_len hl)
    clear hl
    go_enter Try.func16, Try.ntmps16
    go_wp2_with fail
    go_ret
    exact ⟨by rw [HV.out]; rfl, Grows.refl _⟩

set_option maxHeartbeats 400000 in
theorem equal_any (A B : Option Addr) (ca cb : Nat) (a b : List ByteArray) (w : World) (hA : Rd w 1 A a.length (a.map Value.string)) (hB : Rd w 1 B b.length (b.map Value.string)) (hca : a.length ≤ 9223372036854775807) (hcb : b.length ≤ 9223372036854775807) :
    Calls Try.prog 24 #[.slice A a.length ca, .slice B b.length cb] w fun e w' => e = .returned (.bool (sameV a b)) ∧ Grows w w' := by
  by_cases hl : a.length = b.length
  · have hl1 : ((a.length : Int) != (b.length : Int)) = false := by simp [hl]
    have hl2 : (a.length != b.length) = false := by simp [hl]
    have HL := Lib.hid hl
    have hle : a.length ≤ b.length := by omega
    have hge : b.length ≤ a.length := by omega
    clear hl
    go_enter Try.func24, Try.ntmps24
    go_wp2_with fail
    go_loopg [13] a.length (fun q i wr => ∃ k : Nat, q + k = a.length ∧ i = .int .i64 k ∧ Grows w wr ∧ ∀ j (ha : j < a.length) (hb : j < b.length), j < k → a[j] = b[j])
    case atStart => exact ⟨0, by omega, rfl, Grows.refl _, fun j _ _ h => absurd h (by omega)⟩
    case round =>
      obtain ⟨k, hk, rfl, hg, hall⟩ := hrel
      have HA := Lib.hid hall
      have HK := Lib.hid hk
      have hk' : k ≤ a.length := by omega
      clear hall hk
      by_cases h1 : k < a.length
      · have h1b : k < b.length := by omega
        obtain ⟨ba, oa, rfl, hba, ea⟩ := (hA.grows hg).str k h1
        obtain ⟨bb, ob, rfl, hbb, eb⟩ := (hB.grows hg).str k h1b
        have i0 : (0 : Int) ≤ (k : Int) := Int.natCast_nonneg _
        have i1 : (k : Int) < (a.length : Int) := by omega
        have i2 : (k : Int) < (b.length : Int) := by omega
        by_cases h2 : a[k] = b[k]
        · have h2' : (a[k].toList == b[k].toList) = true := str_eq h2
          have H2 := Lib.hid h2
          clear h2
          go_wp2_with fail
          go_quiet (fail)
          go_wp2_with fail
          go_roundg (gk - 1)
          case measure => have := HK.out; omega
          case rel =>
            refine ⟨k + 1, by have := HK.out; omega, by go_num, hg.drewN _, fun j ha hb h => ?_⟩
            by_cases e : j = k
            · subst e; exact H2.out
            · exact HA.out j ha hb (by omega)
        · have h2' : (a[k].toList == b[k].toList) = false := str_ne h2
          have HV := Lib.hid (sameV_at k h1 h1b h2)
          clear h2
          go_wp2_with fail
          go_quiet (fail)
          go_wp2_with fail
          go_ret
          exact ⟨by rw [HV.out]; rfl, hg.drewN _⟩
      · have HV := Lib.hid (sameV_all HL.out fun j ha hb => HA.out j ha hb (by omega))
        go_wp2_with fail
        go_ret
        exact ⟨by rw [HV.out]; rfl, hg⟩
  · have hl1 : ((a.length : Int) != (b.length : Int)) = true := by simp; omega
    have hl2 : (a.length != b.length) = true := by simp [hl]
    have HV := Lib.hid (sameV_len hl)
    clear hl
    go_enter Try.func24, Try.ntmps24
    go_wp2_with fail
    go_ret
    exact ⟨by rw [HV.out]; rfl, Grows.refl _⟩

set_option maxHeartbeats 400000 in
theorem linesSame_any (A B : Option Addr) (ca cb : Nat) (a b : List ByteArray) (w : World) (hA : Rd w 1 A a.length (a.map Value.string)) (hB : Rd w 1 B b.length (b.map Value.string)) (hca : a.length ≤ 9223372036854775807) (hcb : b.length ≤ 9223372036854775807) :
    Calls Try.prog 15 #[.slice A a.length ca, .slice B b.length cb] w fun e w' => e = .returned (.bool (sameV a b)) ∧ Grows w w' := by
  go_enter Try.func15, Try.ntmps15
  go_wp2_with fail
  (with_reducible refine (equal_any A B ca cb a b _ hA hB hca hcb).mono ?_)
  rintro e w' ⟨rfl, hg⟩
  go_wp2_with fail
  go_ret
  exact ⟨rfl, hg⟩
end Go.Proofs.Yteabpdahhjfaiaa
