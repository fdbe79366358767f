/-
  Chapter 17: the laws' own bounds of acts; registers compared, all of them; new registers of the document's.
-/
import Derived.Test.YtlhdbaaokgdabaaRegsRefSet
import Derived.Test.YtlhdbaaokgdabaaRegsLives
import Derived.Test.YtlhdbaaokgdabaaActs
namespace Go.Proofs.Ytlhdbaaokgdabaa
open Go.RowKit

theorem beyond20 (A : Option Addr) (cap : Nat) (d : List (List UInt8)) (w : World) (hA : Rd w 1 A d.length (lv d)) (hd : d.length ≤ 9223372036854775807) (hl : ∀ s ∈ d, s.length ≤ 9223372036854775807) :
    Calls Try.prog 8 #[.slice A d.length cap, .int .i64 20] w fun e w' => e = .returned (.bool (bigL d 20)) ∧ w = w' := beyondLines_any A cap d 20 w hA hd (by omega) hl
theorem same_lit' {ok ok2 : Nat → Prop} (a : Rg) (A B : Option Addr) (ca cb : Nat) (w : World) (ha : LRd ok w A ca a.d) (hb : LRd ok2 w B cb a.d) (hl : a.d.length ≤ 1000000) : Calls Try.prog 16 #[.agg #[.slice A a.d.length ca, .bool a.whole], .agg #[.slice B a.d.length cb, .bool a.whole]] w fun e w1 => e = .returned (.bool true) ∧ Grows w w1 := by
  have := sameReg_any A B ca cb a a w ha hb hl hl
  rwa [rsame_self] at this
/-- Are acts more than is looked at? -/
def bigA (L : List ActC) (m : Nat) : Bool := decide (m < L.length) || L.any fun s => bigL s.x.d 20
theorem bigA_no {L : List ActC} {m : Nat} (h : bigA L m = false) : L.length ≤ m ∧ ∀ s ∈ L, s.x.d.length ≤ 20 ∧ ∀ t ∈ s.x.d, t.length ≤ 300 := by
  unfold bigA at h
  simp only [Bool.or_eq_false_iff, decide_eq_false_iff_not, List.any_eq_false] at h
  exact ⟨by omega, fun s hs => bigL_no (by have := h.2 s hs; simpa using this)⟩
set_option maxHeartbeats 1000000 in
theorem beyond_any (A : Option Addr) (cap : Nat) (L : List ActC) (m : Nat) (m' : Int) (hm' : m' = m) (w : World) (h : CameActs w A cap L) (hm : m ≤ 1000000) :
    Calls Try.prog 7 #[.slice A L.length cap, .int .i64 m'] w fun e w' => e = .returned (.bool (bigA L m)) ∧ w = w' := by
  subst hm'
  have hL := Lib.hid h.each
  have hA := h.rd
  have hd := h.len
  clear h
  by_cases h1 : m < L.length
  · have hV : Hid (bigA L m = true) := Lib.hid (by simp [bigA, h1])
    have h1' : (m : Int) < (L.length : Int) := by omega
    go_enter Try.func7, Try.ntmps7
    go_wp2_with fail
    go_ret
    exact ⟨by rw [hV.out]; rfl, rfl⟩
  · have h1' : ¬ (m : Int) < (L.length : Int) := by omega
    have hdm : L.length ≤ m := by omega
    have H1 := Lib.hid h1
    clear h1
    go_enter Try.func7, Try.ntmps7
    go_wp2_with fail
    go_loopg [5] L.length (fun q i wr => ∃ k : Nat, q + k = L.length ∧ i = .int .i64 k ∧ wr = w ∧ (L.take k).any (fun s => bigL s.x.d 20) = false)
    case atStart => exact ⟨0, by omega, rfl, rfl, rfl⟩
    case round =>
      obtain ⟨k, hq, rfl, rfl, hall⟩ := hrel
      have HQ := Lib.hid hq
      have HA := Lib.hid hall
      have hkl : k ≤ L.length := by omega
      clear hq hall
      by_cases h2 : k < L.length
      · obtain ⟨b, o, rfl, hb, e0, e1, e2, e3⟩ := hA.act k h2
        have hc := Lib.hid (hL.out _ (List.getElem_mem h2)).came
        have k0 : (0 : Int) ≤ (k : Int) := by omega
        have k1 : (k : Int) < (L.length : Int) := by omega
        cases h3 : bigL L[k].x.d 20 with
        | true =>
          have hV : Hid (bigA L m = true) := Lib.hid (by
            unfold bigA
            rw [Bool.or_eq_true, List.any_eq_true]
            exact .inr ⟨_, List.getElem_mem h2, h3⟩)
          have H3 := Lib.hid h3
          clear h3
          go_wp2_with fail
          (with_reducible refine (beyond20 L[k].A L[k].cap L[k].x.d _ hc.out.rd hc.out.len hc.out.each).mono ?_)
          rw [H3.out]
          rintro e w1 ⟨rfl, rfl⟩
          go_wp2_with fail
          go_ret
          exact ⟨by rw [hV.out]; rfl, rfl⟩
        | false =>
          have HT : Hid ((L.take (k + 1)).any (fun s => bigL s.x.d 20) = false) := Lib.hid (by
            rw [List.take_add_one, List.getElem?_eq_getElem h2, List.any_append, HA.out]
            simpa using h3)
          have H3 := Lib.hid h3
          clear h3
          go_wp2_with fail
          (with_reducible refine (beyond20 L[k].A L[k].cap L[k].x.d _ hc.out.rd hc.out.len hc.out.each).mono ?_)
          rw [H3.out]
          rintro e w1 ⟨rfl, rfl⟩
          go_wp2_with fail
          go_roundg (gk - 1)
          case measure => have := HQ.out; omega
          case rel => exact ⟨k + 1, by have := HQ.out; omega, by go_num, rfl, HT.out⟩
      · have hV : Hid (bigA L m = false) := Lib.hid (by
          have := HA.out
          rw [List.take_of_length_le (by omega)] at this
          unfold bigA
          rw [this, decide_eq_false H1.out]
          rfl)
        go_wp2_with fail
        go_ret
        exact ⟨by rw [hV.out]; rfl, rfl⟩
set_option maxRecDepth 20000 in
set_option maxHeartbeats 2000000 in
/-- All registers of both have the same. -/
theorem sameRegs_any {ok ok' : Nat → Prop} (p r g : Nat) (S : RS) (w : World) (h : Regs ok w p r S) (k : RefIs ok' w g S) :
    Calls Try.prog 15 #[.pointer (some ⟨p, 0, none⟩), .pointer (some ⟨g, 0, none⟩)] w fun e w' => e = .returned (.bool true) ∧ Grows w w' := by
  have H := Lib.hid h
  have K := Lib.hid k
  clear h k
  go_enter Try.func15, Try.ntmps15
  go_wp2_with fail
  go_loopg [5] 256 (fun q i wr => ∃ c : Nat, q + c = 256 ∧ i = .int .i64 c ∧ Grows w wr)
  case atStart => exact ⟨0, rfl, rfl, Grows.refl _⟩
  case round =>
    obtain ⟨c, hq, rfl, m0, rfl⟩ := hrel
    have hQ := Lib.hid hq
    have hc9 : c ≤ 256 := by omega
    clear hq
    by_cases h1 : c < 256
    · have c1 : (c : Int) < 256 := by omega
      have hw : IntKind.u8.wrap (c : Int) = c := u8_wrap (by omega) (by omega)
      have hl : (rget S c).1.d.length ≤ 1000000 := by
        unfold rget
        cases hs : S (lowL c) with
        | none => simp [rg0]
        | some x => have := (rcheck_fits (H.out.good _ _ hs)).1; simp; omega
      have HL := Lib.hid hl
      clear hl
      go_wp2_with fail
      (with_reducible refine (get_any p r S c _ (H.out.grows (by repeat' first | exact Grows.refl _ | refine Grows.more ?_ _ | refine Grows.alloc ?_ _))).mono ?_)
      rintro e w1 ⟨A1, c1, rfl, hL1, m1, rfl⟩
      have hL1 := Lib.hid hL1
      go_wp2_with fail
      (with_reducible refine (refGet_any g S c h1 _ (K.out.grows (by repeat' first | exact Grows.refl _ | refine Grows.more ?_ _ | refine Grows.alloc ?_ _))).mono ?_)
      rintro e w2 ⟨A2, c2, rfl, hL2, m2, rfl⟩
      have hL2 := Lib.hid hL2
      generalize rget S c = x at *
      obtain ⟨x, e9⟩ := x
      go_wp2_with fail
      (with_reducible refine (same_lit' x A1 A2 _ _ _ (hL1.out.grows (by repeat' first | exact Grows.refl _ | refine Grows.more ?_ _ | refine Grows.alloc ?_ _)) (hL2.out.grows (by repeat' first | exact Grows.refl _ | refine Grows.more ?_ _ | refine Grows.alloc ?_ _)) HL.out).mono ?_)
      rintro e w3 ⟨rfl, m3, rfl⟩
      go_wp2_with fail
      go_roundg (gk - 1)
      case measure => have := hQ.out; omega
      case rel => exact ⟨c + 1, by have := hQ.out; omega, by go_num, by repeat' first | exact Grows.refl _ | refine Grows.more ?_ _ | refine Grows.alloc ?_ _⟩
    · go_wp2_with fail
      go_ret
      exact ⟨rfl, Grows.of _ _⟩
end Go.Proofs.Ytlhdbaaokgdabaa
