/-
  Lines: the laws LinesSame and LinesJoin.
-/
import Derived.Test.YteabpdahhjfaiaaLinesTwin
import Derived.Test.YteabpdahhjfaiaaLinesCheck
namespace Go.Proofs.Yteabpdahhjfaiaa
open Go.RowKit

/-- A list of lines that came in. -/
structure Came (w : World) (A : Option Addr) (cap : Nat) (d : List (List UInt8)) : Prop where
  rd : Rd w 1 A d.length (lv d)
  nil : A = none → d.length = 0 ∧ cap = 0
  len : d.length ≤ 9223372036854775807
  each : ∀ s ∈ d, s.length ≤ 9223372036854775807

set_option maxHeartbeats 1000000 in
theorem linesSame_law (A B : Option Addr) (ca cb : Nat) (a b : List (List UInt8)) (w : World) (hA : Came w A ca a) (hB : Came w B cb b) :
    Calls Try.prog 4 #[.slice A a.length ca, .slice B b.length cb] w fun e w' => e = .returned (.bool true) ∧ Grows w w' := by
  have ha := hA.len
  have hb := hB.len
  go_enter Try.func4, Try.ntmps4
  go_wp2_with fail
  (with_reducible refine (great_any A ca a 1000 50000 _ hA.rd ha hA.each (by decide) (by decide) (by decide) (by decide)).mono ?_)
  rintro e w1 ⟨ga, rfl, hga, rfl⟩
  cases ga with
  | true =>
    go_wp2_with fail
    go_ret
    exact ⟨rfl, Grows.refl _⟩
  | false =>
    obtain ⟨hga1, hga2⟩ := hga rfl
    have HG := Lib.hid hga
    clear hga
    go_wp2_with fail
    (with_reducible refine (great_any B cb b 1000 50000 _ hB.rd hb hB.each (by decide) (by decide) (by decide) (by decide)).mono ?_)
    rintro e w1 ⟨gb, rfl, hgb, rfl⟩
    cases gb with
    | true =>
      go_wp2_with fail
      go_ret
      exact ⟨rfl, Grows.refl _⟩
    | false =>
      obtain ⟨hgb1, hgb2⟩ := hgb rfl
      have HH := Lib.hid hgb
      clear hgb
      go_wp2_with fail
      (with_reducible refine (linesSame_at A B ca cb _ _ a b _ hA.rd hB.rd ha hb rfl rfl).mono ?_)
      rintro e w1 ⟨rfl, m1, rfl⟩
      go_wp2_with fail
      (with_reducible refine (refSame_at A B ca cb _ _ a b _ (by exact hA.rd.grows (Grows.of _ _)) (by exact hB.rd.grows (Grows.of _ _)) ha hb rfl rfl).mono ?_)
      rintro e w1 ⟨rfl, m2, rfl⟩
      go_wp2_with fail
      (with_reducible refine (linesSame_at B A cb ca _ _ b a _ (by exact hB.rd.grows ((Grows.of _ _).more _)) (by exact hA.rd.grows ((Grows.of _ _).more _)) hb ha rfl rfl).mono ?_)
      rintro e w1 ⟨rfl, m3, rfl⟩
      have hsym : sameL b a = sameL a b := by unfold sameL; rw [Bool.eq_iff_iff]; simp; exact ⟨Eq.symm, Eq.symm⟩
      rw [hsym]
      clear hsym
      go_wp2_with fail
      (with_reducible refine (linesSame_at A B ca cb _ _ a b _ (by exact hA.rd.grows (((Grows.of _ _).more _).more _)) (by exact hB.rd.grows (((Grows.of _ _).more _).more _)) ha hb rfl rfl).mono ?_)
      rintro e w1 ⟨rfl, m4, rfl⟩
      generalize hW : more (more (more (more w m1) m2) m3) m4 = W
      have hg : Grows w W := by rw [← hW]; exact (((Grows.of _ _).more _).more _).more _
      clear hW
      go_wp2_with fail
      (with_reducible refine (twin_any A ca a _ (by exact hA.rd.grows hg) (by omega) hA.nil).mono ?_)
      rintro e w1 ⟨g, ct, rfl, hct, hct9, hT, m5, rfl⟩
      go_wp2_with fail
      (with_reducible refine (linesSame_at A (some ⟨g, 0, none⟩) ca ct _ _ a a _ (by exact hA.rd.grows (hg.more _)) (twin_rd hT) ha ha rfl rfl).mono ?_)
      rw [sameL_self]
      rintro e w1 ⟨rfl, m6, rfl⟩
      go_wp2_with fail
      (with_reducible refine (does_any _).mono ?_)
      rintro e w1 ⟨rfl, m7, rfl⟩
      go_wp2_with fail
      go_ret
      exact ⟨rfl, ((hg.more _).more _).more _⟩

set_option maxHeartbeats 1000000 in
theorem linesJoin_law (A : Option Addr) (ca : Nat) (a : List (List UInt8)) (w : World) (hA : Came w A ca a) :
    Calls Try.prog 6 #[.slice A a.length ca] w fun e w' => e = .returned (.bool true) ∧ Grows w w' := by
  have ha := hA.len
  go_enter Try.func6, Try.ntmps6
  go_wp2_with fail
  (with_reducible refine (great_any A ca a 3000 50000 _ hA.rd ha hA.each (by decide) (by decide) (by decide) (by decide)).mono ?_)
  rintro e w1 ⟨ga, rfl, hga, rfl⟩
  cases ga with
  | true =>
    go_wp2_with fail
    go_ret
    exact ⟨rfl, Grows.refl _⟩
  | false =>
    obtain ⟨hga1, hga2⟩ := hga rfl
    have HG := Lib.hid hga
    have hj : (joinL a).length ≤ 140737488355000 := by rw [joinL_length]; omega
    clear hga
    go_wp2_with fail
    (with_reducible refine (twin_any A ca a _ hA.rd (by omega) hA.nil).mono ?_)
    rintro e w1 ⟨g, ct, rfl, hct, hct9, hT, m1, rfl⟩
    go_wp2_with fail
    (with_reducible refine (join_any (some ⟨g, 0, none⟩) ct a _ (twin_rd hT) hj ha).mono ?_)
    rintro e w1 ⟨rfl, m2, rfl⟩
    go_wp2_with fail
    (with_reducible refine (refJoin_any A ca a _ (by exact hA.rd.grows ((Grows.of _ _).more _)) hj ha).mono ?_)
    rintro e w1 ⟨rfl, rfl⟩
    go_wp2_with fail
    (with_reducible refine (check_any (some ⟨g, 0, none⟩) ct a _ (by exact (twin_rd hT).grows (Grows.of _ _)) ha hA.each).mono ?_)
    rintro e w1 ⟨rfl, rfl⟩
    go_wp2_with fail
    (with_reducible refine (refCheck_any A ca a _ (by exact hA.rd.grows ((Grows.of _ _).more _)) ha hA.each).mono ?_)
    rintro e w1 ⟨rfl, rfl⟩
    go_wp2_with fail
    (with_reducible refine (left_any A g ct ca _ a _ (by exact hA.rd.grows ((Grows.of _ _).more _)) (by omega) hct hct9 (by exact own_grows hT (Grows.of _ _))).mono ?_)
    rintro e w1 ⟨rfl, m3, rfl⟩
    go_wp2_with fail
    (with_reducible refine (does_any _).mono ?_)
    rintro e w1 ⟨rfl, m7, rfl⟩
    go_wp2_with fail
    go_ret
    exact ⟨rfl, (((Grows.of _ _).more _).more _).more _⟩
end Go.Proofs.Yteabpdahhjfaiaa
