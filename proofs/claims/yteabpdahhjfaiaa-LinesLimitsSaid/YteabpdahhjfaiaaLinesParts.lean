/-
  Lines: the law LinesParts.
-/
import Derived.Test.YteabpdahhjfaiaaLinesSplitLaw
import Derived.Test.YteabpdahhjfaiaaAppend
namespace Go.Proofs.Yteabpdahhjfaiaa
open Go.RowKit

/-- An owned list: its value, nil where it has nothing. -/
theorem own_rd' {w : World} {base : Nat} {v : Value} {d : List (List UInt8)} (h : w.ownsRow base 9 1 v d.length (lv d)) : ∃ A cap, v = .slice A d.length cap ∧ d.length ≤ cap ∧ cap ≤ 9223372036854775807 ∧ Rd w 1 A d.length (lv d) ∧ (A = none → d.length = 0 ∧ cap = 0) := by
  obtain ⟨A, cap, e, h1, h2, h3⟩ := own_rd h
  refine ⟨A, cap, e, h1, h2, h3, fun hA => ?_⟩
  subst hA
  rcases h.2 with ⟨e2, h0⟩ | ⟨g, c, cur, e2, _⟩
  · rw [e] at e2; injection e2 with _ e3 e4; exact ⟨h0, e4⟩
  · rw [e] at e2; injection e2 with e3; cases e3
theorem lv_one (d : List (List UInt8)) : ∀ u ∈ lv d, u.oneCell' = true := by
  intro u hu
  simp only [lv, List.mem_map] at hu
  obtain ⟨s, _, rfl⟩ := hu
  rfl
theorem lv_append (a b : List (List UInt8)) : lv a ++ lv b = lv (a ++ b) := by simp [lv]

theorem own_first {W w1 : World} {tmp : Obj} {n cap : Nat} (hgrow : (W.alloc tmp).grownBy w1 (Value.slice (some ⟨W.heap.size, 0, none⟩) n cap).ownBlock) : Below W.heap.size W w1 :=
  ((Below.refl _ W).alloc (Nat.le_refl _) _).grown hgrow (by simp) (fun k e => by simp [Value.ownBlock] at e; omega)
theorem own_next {W w1 w2 : World} {v : Value} {n : Nat} {xs : List Value} (hb : Below W.heap.size W w1) (hown : w1.ownsRow W.heap.size 9 1 v n xs) (hgrow : w1.grownBy w2 v.ownBlock) : Below W.heap.size W w2 :=
  hb.grown hgrow hb.size (fun k e => (hown.lt k e).1)
set_option maxHeartbeats 1000000 in
theorem linesParts_any (a b : List UInt8) (hs : a.length ≤ 9223372036854775807) (ht : b.length ≤ 9223372036854775807) (w : World) : Calls Try.prog 5 #[.string (tx a), .string (tx b)] w fun e w' => e = .returned (.bool true) ∧ Grows w w' := by
  obtain ⟨i0, hi, hz0, hz1, hz2⟩ := info_parts infoStr
  have za : (tx a).size ≤ 9223372036854775807 := by simpa using hs
  have zb : (tx b).size ≤ 9223372036854775807 := by simpa using ht
  by_cases h1 : 10000 < a.length
  · have h1' : 10000 < (tx a).size := by simpa using h1
    go_enter Try.func5, Try.ntmps5
    go_wp2_with fail
    go_ret
    exact ⟨rfl, Grows.refl _⟩
  · have h1' : (tx a).size ≤ 10000 := by simp; omega
    by_cases h2 : 10000 < b.length
    · have h2' : 10000 < (tx b).size := by simpa using h2
      go_enter Try.func5, Try.ntmps5
      go_wp2_with fail
      go_ret
      exact ⟨rfl, Grows.refl _⟩
    · have h2' : (tx b).size ≤ 10000 := by simp; omega
      have hla : (linesL a).length ≤ 10000 := by have := itemsL_length a; simp [linesL]; omega
      have hlb : (linesL b).length ≤ 10000 := by have := itemsL_length b; simp [linesL]; omega
      go_enter Try.func5, Try.ntmps5
      go_wp2_with fail
      (with_reducible refine (split_any a (by omega) _).mono ?_)
      rintro e w1 ⟨v, rfl, hown, m1, rfl⟩
      obtain ⟨A, ca, rfl, hca, hca2, hA, nA⟩ := own_rd' hown
      clear hown
      go_wp2_with fail
      (with_reducible refine (split_any b (by omega) _).mono ?_)
      rintro e w1 ⟨v, rfl, hown, m2, rfl⟩
      obtain ⟨B, cb, rfl, hcb, hcb2, hB, nB⟩ := own_rd' hown
      clear hown
      go_wp2_with fail
      rw [tx_append]
      (with_reducible refine (split_any (a ++ b) (by simp; omega) _).mono ?_)
      rintro e w1 ⟨v, rfl, hown, m3, rfl⟩
      obtain ⟨C, cc, rfl, hcc, hcc2, hC, nC⟩ := own_rd' hown
      clear hown
      cases hen : endedL a with
      | false =>
        go_wp2_with fail
        (with_reducible refine (does_any _).mono ?_)
        rintro e w1 ⟨rfl, m6, rfl⟩
        go_wp2_with fail
        go_ret
        exact ⟨rfl, by repeat' first | exact Grows.refl _ | refine Grows.more ?_ _ | refine Grows.alloc ?_ _⟩
      | true =>
        obtain ⟨hp1, hp2⟩ := lines_parts a b hen
        rw [hp1] at hC
        rw [hp1, hp2]
        have NA := Lib.hid nA
        have NB := Lib.hid nB
        have NC := Lib.hid nC
        clear hp1 hp2 nA nB nC hcc
        obtain ⟨W3, hW3⟩ : ∃ W3, W3 = more (more (more w m1) m2) m3 := ⟨_, rfl⟩
        have hg3 : Grows w W3 := by rw [hW3]; exact ((Grows.of w m1).more m2).more m3
        have hA3 : Rd W3 1 A (linesL a).length (lv (linesL a)) := by rw [hW3]; exact hA.grows ((Grows.of _ m2).more m3)
        have hB3 : Rd W3 1 B (linesL b).length (lv (linesL b)) := by rw [hW3]; exact hB.grows (Grows.of _ m3)
        rw [← hW3] at hC ⊢
        clear hW3 hA hB
        have hbl := hg3.below
        have hsz := hbl.size
        have hmade : (W3.alloc (.cells #[] 9)).ownsRow W3.heap.size 9 1 (.slice (some ⟨W3.heap.size, 0, none⟩) 0 0) 0 [] := World.ownsRow_made W3 #[] 0 (Nat.le_refl _) (by decide) rfl
        have hA4 := hA3.grows ((Grows.refl W3).alloc (.cells #[] 9))
        have hC4 := Lib.hid hC
        clear hC
        go_wp2_with (first
          | (at_builtin; refine wpList_append_rd _ rfl (.tmp 40) (.tmp 41) 22 rfl W3.heap.size 9 i0 (.string ⟨#[]⟩) 16 Try.underlying22 hi hz0 hz1 hz2 rfl _ _ _ rfl hmade A _ ca (lv (linesL a)) rfl NA.out hA4 (lv_one _) (by unfold maxLen; omega) (by omega) (by simp) ?_; intro v1 w1 hown1 hgrow1; simp only [Nat.zero_add, List.nil_append] at hown1; have hb1 := own_first hgrow1; have hs1 := hb1.size; have hB4 := hB3.grows (Grows.of_below hb1); clear hgrow1)
          | (at_builtin; refine wpList_append_rd _ rfl (.tmp 42) (.tmp 43) 22 rfl W3.heap.size 9 i0 (.string ⟨#[]⟩) 16 Try.underlying22 hi hz0 hz1 hz2 rfl _ _ _ rfl hown1 B _ cb (lv (linesL b)) rfl NB.out hB4 (lv_one _) (by unfold maxLen; omega) (by omega) hs1 ?_; intro v2 w2 hown2 hgrow2; have hb2 := own_next hb1 hown1 hgrow2; obtain ⟨D, cd, rfl, hcd, hcd2, hD⟩ := own_rd (d := linesL a ++ linesL b) (by rw [List.length_append, ← lv_append]; exact hown2)))
        (with_reducible refine (lawSame_at C D cc cd _ _ (linesL a ++ linesL b) (linesL a ++ linesL b) _ (hC4.out.grows (Grows.of_below hb2)) hD (by simp; omega) (by simp; omega) (by simp) (by simp)).mono ?_)
        rw [sameL_self]
        rintro e w3 ⟨rfl, m5, rfl⟩
        go_wp2_with fail
        (with_reducible refine (does_any _).mono ?_)
        rintro e w4 ⟨rfl, m6, rfl⟩
        go_wp2_with fail
        go_ret
        exact ⟨by simp, ((hg3.trans (Grows.of_below hb2)).more m5).more m6⟩
end Go.Proofs.Yteabpdahhjfaiaa
