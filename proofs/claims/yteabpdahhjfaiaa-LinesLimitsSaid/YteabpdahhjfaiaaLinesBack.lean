/-
  Lines: the laws LinesBack and LinesMay.
-/
import Derived.Test.YteabpdahhjfaiaaLinesLaws
namespace Go.Proofs.Yteabpdahhjfaiaa
open Go.RowKit

theorem any_hasEnd (d : List (List UInt8)) (h : d.any hasEnd = false) : ∀ a ∈ d, 10 ∉ a := by
  intro a ha h10
  have : d.any hasEnd = true := List.any_eq_true.2 ⟨a, ha, by simpa [hasEnd] using h10⟩
  rw [h] at this; cases this
theorem check_ok (d : List (List UInt8)) (h : d.any hasEnd = false) : (checkV d == 2) = false ∧ (checkV d != 2) = true := by
  unfold checkV
  rw [h]
  simp only [Bool.false_eq_true, if_false]
  split <;> simp
theorem check_arg (d : List (List UInt8)) (h : d.any hasEnd = true) : (checkV d == 2) = true := by
  unfold checkV
  rw [h]
  simp
theorem last_end (s : List UInt8) (h : s.length < (tx (s ++ [10])).size) : (((tx (s ++ [10]))[s.length].toNat : Int) != 10) = false := by
  rw [tx_get]; simp

set_option maxHeartbeats 1000000 in
theorem linesBack_law (A : Option Addr) (ca : Nat) (a : List (List UInt8)) (s : List UInt8) (hs : s.length ≤ 9223372036854775807) (w : World) (hA : Came w A ca a) :
    Calls Try.prog 7 #[.slice A a.length ca, .string (tx s)] w fun e w' => e = .returned (.bool true) ∧ Grows w w' := by
  have ha := hA.len
  have hz : (tx s).size ≤ 9223372036854775807 := by simpa using hs
  go_enter Try.func7, Try.ntmps7
  go_wp2_with fail
  (with_reducible refine (great_any A ca a 1000 20000 _ hA.rd ha hA.each (by decide) (by decide) (by decide) (by decide)).mono ?_)
  rintro e w1 ⟨ga, rfl, hga, rfl⟩
  cases ga with
  | true =>
    go_wp2_with fail
    go_ret
    exact ⟨rfl, Grows.refl _⟩
  | false =>
    obtain ⟨hga1, hga2⟩ := hga rfl
    have HG := Lib.hid hga
    clear hga
    by_cases h1 : 20000 < s.length
    · have h1' : 20000 < (tx s).size := by simpa using h1
      go_wp2_with fail
      go_ret
      exact ⟨rfl, Grows.refl _⟩
    · have h1' : (tx s).size ≤ 20000 := by simp; omega
      have hja : (joinL a).length ≤ 30000 := by rw [joinL_length]; omega
      have hjl := join_lines s
      go_wp2_with fail
      (with_reducible refine (split_any s (by omega) _).mono ?_)
      rintro e w1 ⟨v, rfl, hown, m1, rfl⟩
      obtain ⟨B, cb, rfl, hcb, hcb2, hB⟩ := own_rd hown
      have hll : (linesL s).length ≤ 20000 := by have := itemsL_length s; simp [linesL]; omega
      clear hown
      go_wp2_with fail
      (with_reducible refine (join_any B cb (linesL s) _ hB (by rw [hjl]; split <;> (try simp) <;> omega) (by omega)).mono ?_)
      rw [hjl]
      clear hjl
      cases hen : endedL s
      case' false =>
        rw [if_neg (by simp)]
        rintro e w1 ⟨rfl, m2, rfl⟩
        have hsz : (tx (s ++ [10])).size = s.length + 1 := by simp
        have hlt : s.length < (tx (s ++ [10])).size := by omega
        have hem : (tx (s ++ [10])).toList.isEmpty = false := by simp [ByteArray.toList_eq]
        have hla := last_end s hlt
        have hhd := tx_head s [10]
        have hself := str_eq (a := tx s) rfl
        have HZ := Lib.hid hsz
        clear hsz
        go_wp2_with fail
      case' true =>
        rw [if_pos rfl]
        rintro e w1 ⟨rfl, m2, rfl⟩
        have hself := str_eq (a := tx s) rfl
        go_wp2_with fail
      all_goals
        (with_reducible refine (join_any A ca a _ (by exact hA.rd.grows ((Grows.of _ _).more _)) (by omega) ha).mono ?_)
        rintro e w1 ⟨rfl, m3, rfl⟩
        go_wp2_with fail
        (with_reducible refine (split_any (joinL a) (by omega) _).mono ?_)
        rintro e w1 ⟨v, rfl, hown, m4, rfl⟩
        obtain ⟨C, cc, rfl, hcc, hcc2, hC⟩ := own_rd hown
        clear hown
        go_wp2_with fail
        (with_reducible refine (check_any A ca a _ (by exact hA.rd.grows ((((Grows.of _ _).more _).more _).more _)) ha hA.each).mono ?_)
        rintro e w1 ⟨rfl, rfl⟩
        cases hh : a.any hasEnd with
        | true =>
          have hck := check_arg a hh
          go_wp2_with fail
          (with_reducible refine (does_any _).mono ?_)
          rintro e w1 ⟨rfl, m7, rfl⟩
          go_wp2_with fail
          go_ret
          exact ⟨rfl, ((((Grows.of _ _).more _).more _).more _).more _⟩
        | false =>
          have hck := (check_ok a hh).1
          obtain ⟨hj1, hj2⟩ := lines_join a (any_hasEnd a hh)
          rw [hj1] at hC
          rw [hj1, hj2]
          clear hj1 hj2 hcc
          go_wp2_with fail
          (with_reducible refine (lawSame_at C A cc ca _ _ a a _ hC (by exact hA.rd.grows ((((Grows.of _ _).more _).more _).more _)) ha ha rfl rfl).mono ?_)
          rw [sameL_self]
          rintro e w1 ⟨rfl, m5, rfl⟩
          go_wp2_with fail
          (with_reducible refine (does_any _).mono ?_)
          rintro e w1 ⟨rfl, m7, rfl⟩
          go_wp2_with fail
          go_ret
          exact ⟨rfl, (((((Grows.of _ _).more _).more _).more _).more _).more _⟩

theorem ends_yes (s : List UInt8) (k : Nat) (h : k < s.length) (e : s[k] = 10) : endsL (s.take (k + 1)) = endsL (s.take k) + 1 := by
  unfold endsL
  rw [List.take_add_one, List.getElem?_eq_getElem h, List.countP_append]
  simp [e]
theorem ends_no (s : List UInt8) (k : Nat) (h : k < s.length) (e : ¬ s[k] = 10) : endsL (s.take (k + 1)) = endsL (s.take k) := by
  unfold endsL
  rw [List.take_add_one, List.getElem?_eq_getElem h, List.countP_append]
  simp [e]
theorem ends_le (s : List UInt8) : endsL s ≤ s.length := List.countP_le_length
theorem whole_lines (s : List UInt8) : (linesL s).any hasEnd = false := by
  rw [← Bool.not_eq_true, List.any_eq_true]
  rintro ⟨a, ha, h⟩
  exact lines_whole s a ha (by simpa [hasEnd] using h)

set_option maxHeartbeats 1000000 in
theorem linesMay_law (s : List UInt8) (hs : s.length ≤ 9223372036854775807) (w : World) :
    Calls Try.prog 8 #[.string (tx s)] w fun e w' => e = .returned (.bool true) ∧ Grows w w' := by
  have hz : (tx s).size ≤ 9223372036854775807 := by simpa using hs
  by_cases h1 : 20000 < s.length
  · have h1' : 20000 < (tx s).size := by simpa using h1
    go_enter Try.func8, Try.ntmps8
    go_wp2_with fail
    go_ret
    exact ⟨rfl, Grows.refl _⟩
  · have h1' : (tx s).size ≤ 20000 := by simp; omega
    have hll : (linesL s).length ≤ 20000 := by have := itemsL_length s; simp [linesL]; omega
    have hel : ∀ a ∈ linesL s, a.length ≤ 9223372036854775807 := by
      intro a ha
      have := byteSum_mem _ a ha
      have h2 : byteSum (linesL s) ≤ s.length + 1 := by
        have := joinL_length (linesL s)
        rw [join_lines s] at this
        split at this <;> (try simp at this) <;> omega
      omega
    have HE := Lib.hid hel
    clear hel
    go_enter Try.func8, Try.ntmps8
    go_wp2_with fail
    (with_reducible refine (split_any s (by omega) _).mono ?_)
    rintro e w1 ⟨v, rfl, hown, m1, rfl⟩
    obtain ⟨B, cb, rfl, hcb, hcb2, hB⟩ := own_rd hown
    clear hown
    go_wp2_with fail
    go_loopg [5, 6] s.length (fun q v i wr => ∃ k : Nat, q + k = s.length ∧ i = .int .i64 k ∧ v = .int .i64 (endsL (s.take k) : Nat) ∧ wr = more w m1)
    case atStart => exact ⟨0, by omega, rfl, rfl, rfl⟩
    case round =>
      obtain ⟨k, hq, rfl, rfl, rfl⟩ := hrel
      have HQ := Lib.hid hq
      have hkl : k ≤ s.length := by omega
      have hes := ends_le (s.take k)
      have hel : endsL (s.take k) ≤ 20000 := by simp at hes; omega
      clear hq hes
      by_cases h2 : k < s.length
      · have h2' : k < (tx s).size := by simpa using h2
        by_cases h3 : s[k] = 10
        · have h3' : (((tx s)[k].toNat : Int) == 10) = true := by rw [show (tx s)[k] = 10 from (tx_get s k h2').trans h3]; rfl
          have HT : Hid (endsL (s.take (k + 1)) = endsL (s.take k) + 1) := Lib.hid (ends_yes s k h2 h3)
          clear h3
          go_wp2_with fail
          go_roundg (gk - 1)
          case measure => have := HQ.out; omega
          case rel => exact ⟨k + 1, by have := HQ.out; omega, by go_num, by rw [HT.out]; go_num, rfl⟩
        · have h3' : (((tx s)[k].toNat : Int) == 10) = false := by
            rw [tx_get, beq_eq_false_iff_ne]
            intro e
            exact h3 (UInt8.toNat.inj (by have : (10 : UInt8).toNat = 10 := rfl; omega))
          have HT : Hid (endsL (s.take (k + 1)) = endsL (s.take k)) := Lib.hid (ends_no s k h2 h3)
          clear h3
          go_wp2_with fail
          go_roundg (gk - 1)
          case measure => have := HQ.out; omega
          case rel => exact ⟨k + 1, by have := HQ.out; omega, by go_num, by rw [HT.out], rfl⟩
      · have hk : s.take k = s := List.take_of_length_le (by omega)
        rw [hk] at hel ⊢
        clear hk
        have hlm := lines_many s
        have hck := (check_ok _ (whole_lines s)).2
        cases hen : endedL s with
        | true =>
          rw [hen, if_pos rfl] at hlm
          have e1 : (((linesL s).length : Int) == (endsL s : Int)) = true := by simp [hlm]
          have e2 : ((linesL s).length == endsL s) = true := by simp [hlm]
          have HM := Lib.hid hlm
          clear hlm
          go_wp2_with fail
          (with_reducible refine (check_any B cb (linesL s) _ hB (by omega) HE.out).mono ?_)
          rintro e w1 ⟨rfl, rfl⟩
          go_wp2_with fail
          (with_reducible refine (does_any _).mono ?_)
          rintro e w1 ⟨rfl, m7, rfl⟩
          go_wp2_with fail
          go_ret
          exact ⟨rfl, (Grows.of _ _).more _⟩
        | false =>
          rw [hen, if_neg (by simp)] at hlm
          obtain ⟨fr, la, hfl, hla⟩ := lines_lastly s hen
          have hpos : 0 < (linesL s).length := by omega
          obtain ⟨b, o, rfl, hb, ec⟩ := hB.line ((linesL s).length - 1) (by omega)
          have hlast : (linesL s)[(linesL s).length - 1]'(by omega) = la := by
            simp [hfl]
          rw [hlast] at ec
          have hem : (tx la).toList.isEmpty = false := by simpa [ByteArray.toList_eq] using hla
          have e1 : (((linesL s).length : Int) == ((endsL s : Int) + 1)) = true := by simp [hlm]
          have e2 : ((linesL s).length == endsL s + 1) = true := by simp [hlm]
          have e3 : (((linesL s).length : Int) == 0) = false := by rw [beq_eq_false_iff_ne]; omega
          have e4 : ((linesL s).length == 0) = false := by rw [beq_eq_false_iff_ne]; omega
          have e5 : (((linesL s).length : Int) - 1).toNat = (linesL s).length - 1 := by omega
          have HM := Lib.hid hlm
          have HF := Lib.hid hfl
          clear hlm hfl hlast
          go_wp2_with fail
          (with_reducible refine (check_any _ cb (linesL s) _ hB (by omega) HE.out).mono ?_)
          rintro e w1 ⟨rfl, rfl⟩
          go_wp2_with fail
          (with_reducible refine (does_any _).mono ?_)
          rintro e w1 ⟨rfl, m7, rfl⟩
          go_wp2_with fail
          go_ret
          exact ⟨rfl, (Grows.of _ _).more _⟩
end Go.Proofs.Yteabpdahhjfaiaa
