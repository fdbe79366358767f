/-
  inkhornlaw01.Same, walked: for every seat whose code calls it.
-/
import Derived.Test.YtblcggmbaofflaaTx
namespace Go.Proofs.Ytblcggmbaofflaa
open Go.RowKit

/-- Are they the same? -/
def sameV (a b : List ByteArray) : Bool := decide (a = b)
theorem sameV_len {a b : List ByteArray} (h : a.length ≠ b.length) : sameV a b = false := by
  simp only [sameV, decide_eq_false_iff_not]; rintro rfl; exact h rfl
theorem sameV_at {a b : List ByteArray} (k : Nat) (ha : k < a.length) (hb : k < b.length) (h : a[k] ≠ b[k]) : sameV a b = false := by
  simp only [sameV, decide_eq_false_iff_not]; rintro rfl; exact h rfl
theorem sameV_all {a b : List ByteArray} (h : a.length = b.length) (h2 : ∀ k (ha : k < a.length) (hb : k < b.length), a[k] = b[k]) : sameV a b = true := by
  simp only [sameV, decide_eq_true_eq]
  exact List.ext_getElem h h2


set_option maxHeartbeats 400000 in
theorem lawSame_any (A B : Option Addr) (ca cb : Nat) (a b : List ByteArray) (w : World) (hA : Rd w 1 A a.length (a.map Value.string)) (hB : Rd w 1 B b.length (b.map Value.string)) (hca : a.length ≤ 9223372036854775807) (hcb : b.length ≤ 9223372036854775807) :
    Calls Try.prog 19 #[.slice A a.length ca, .slice B b.length cb] w fun e w' => e = .returned (.bool (sameV a b)) ∧ Grows w w' := by
  by_cases hl : a.length = b.length
  · have hl1 : ((a.length : Int) != (b.length : Int)) = false := by simp [hl]
    have hl2 : (a.length != b.length) = false := by simp [hl]
    have HL := Lib.hid hl
    have hle : a.length ≤ b.length := by omega
    have hge : b.length ≤ a.length := by omega
    clear hl
    go_enter Try.func19, Try.ntmps19
    go_wp2_with fail
    go_loopg [5] a.length (fun q i wr => ∃ k : Nat, q + k = a.length ∧ i = .int .i64 k ∧ Grows w wr ∧ ∀ j (ha : j < a.length) (hb : j < b.length), j < k → a[j] = b[j])
    case atStart => exact ⟨0, by omega, rfl, Grows.refl _, fun j _ _ h => absurd h (by omega)⟩
    case round =>
      obtain ⟨k, hk, rfl, hg, hall⟩ := hrel
      have HA := Lib.hid hall
      have HK := Lib.hid hk
      have hk' : k ≤ a.length := by omega
      clear hall hk
      by_cases h1 : k < a.length
      · have h1b : k < b.length := by omega
        obtain ⟨ba, oa, rfl, hba, ea⟩ := (hA.grows hg).str k h1
        obtain ⟨bb, ob, rfl, hbb, eb⟩ := (hB.grows hg).str k h1b
        have i0 : (0 : Int) ≤ (k : Int) := Int.natCast_nonneg _
        have i1 : (k : Int) < (a.length : Int) := by omega
        have i2 : (k : Int) < (b.length : Int) := by omega
        by_cases h2 : a[k] = b[k]
        · have h2' : (a[k].toList == b[k].toList) = true := str_eq h2
          have H2 := Lib.hid h2
          clear h2
          go_wp2_with fail
          go_quiet (fail)
          go_wp2_with fail
          go_roundg (gk - 1)
          case measure => have := HK.out; omega
          case rel =>
            refine ⟨k + 1, by have := HK.out; omega, by go_num, hg.drewN _, fun j ha hb h => ?_⟩
            by_cases e : j = k
            · subst e; exact H2.out
            · exact HA.out j ha hb (by omega)
        · have h2' : (a[k].toList == b[k].toList) = false := str_ne h2
          have HV := Lib.hid (sameV_at k h1 h1b h2)
          clear h2
          go_wp2_with fail
          go_quiet (fail)
          go_wp2_with fail
          go_ret
          exact ⟨by rw [HV.out]; rfl, hg.drewN _⟩
      · have HV := Lib.hid (sameV_all HL.out fun j ha hb => HA.out j ha hb (by omega))
        go_wp2_with fail
        go_ret
        exact ⟨by rw [HV.out]; rfl, hg⟩
  · have hl1 : ((a.length : Int) != (b.length : Int)) = true := by simp; omega
    have hl2 : (a.length != b.length) = true := by simp [hl]
    have HV := Lib.hid (sameV_len hl)
    clear hl
    go_enter Try.func19, Try.ntmps19
    go_wp2_with fail
    go_ret
    exact ⟨by rw [HV.out]; rfl, Grows.refl _⟩

/-- Are lines the same? -/
def sameL (a b : List (List UInt8)) : Bool := decide (a = b)
theorem sameL_self (a : List (List UInt8)) : sameL a a = true := by simp [sameL]
theorem sameV_tx (a b : List (List UInt8)) : sameV (a.map tx) (b.map tx) = sameL a b := by
  unfold sameV sameL
  by_cases h : a = b
  · subst h; simp
  · simp only [h, decide_false, decide_eq_false_iff_not]
    exact fun e => h (map_tx_inj e)
theorem lawSame_at (A B : Option Addr) (ca cb na nb : Nat) (a b : List (List UInt8)) (w : World) (hA : Rd w 1 A a.length (lv a)) (hB : Rd w 1 B b.length (lv b)) (hca : a.length ≤ 9223372036854775807) (hcb : b.length ≤ 9223372036854775807) (ha : na = a.length) (hb : nb = b.length) : Calls Try.prog 19 #[.slice A na ca, .slice B nb cb] w fun e w' => e = .returned (.bool (sameL a b)) ∧ Grows w w' := by
  subst ha hb
  have := lawSame_any A B ca cb (a.map tx) (b.map tx) w (by simpa [lv] using hA) (by simpa [lv] using hB) (by simpa using hca) (by simpa using hcb)
  rw [sameV_tx] at this
  simpa using this
end Go.Proofs.Ytblcggmbaofflaa
