/-
  Lines: the law LinesSplit.
-/
import Derived.Test.YteabpdahhjfaiaaLinesDoes
namespace Go.Proofs.Yteabpdahhjfaiaa
open Go.RowKit

theorem own_grows {w w' : World} {base n : Nat} {v : Value} {xs : List Value} (h : w.ownsRow base 9 1 v n xs) (hg : Grows w w') : w'.ownsRow base 9 1 v n xs := by
  obtain ⟨h1, h2⟩ := h
  refine ⟨h1, h2.elim Or.inl ?_⟩
  rintro ⟨g, cap, cur, hv, hb, hh, r⟩
  obtain ⟨m, rfl⟩ := hg
  exact Or.inr ⟨g, cap, cur, hv, hb, by rw [heap_more w m g (Array.getElem?_eq_some_iff.1 hh).1]; exact hh, r⟩
theorem own_some {w : World} {base n ca : Nat} {A : Option Addr} {xs : List Value} (h : w.ownsRow base 9 1 (.slice A n ca) n xs) (hn : 0 < n) : ∃ g, A = some ⟨g, 0, none⟩ ∧ base ≤ g ∧ g < w.heap.size := by
  rcases h.2 with ⟨_, h0⟩ | ⟨g, cap, cur, e, hb, hh, _⟩
  · omega
  · injection e with e1 e2 e3
    exact ⟨g, e1, hb, (Array.getElem?_eq_some_iff.1 hh).1⟩
theorem sameL_self (a : List (List UInt8)) : sameL a a = true := by simp [sameL]

set_option maxHeartbeats 1000000 in
theorem linesSplit_any (s : List UInt8) (hs : s.length ≤ 9223372036854775807) (w : World) : Calls Try.prog 3 #[.string (tx s)] w fun e w' => e = .returned (.bool true) ∧ Grows w w' := by
  have hz : (tx s).size ≤ 9223372036854775807 := by simpa using hs
  by_cases h1 : 20000 < s.length
  · have h1' : 20000 < (tx s).size := by simpa using h1
    go_enter Try.func3, Try.ntmps3
    go_wp2_with fail
    go_ret
    exact ⟨rfl, Grows.refl _⟩
  · have h1' : (tx s).size ≤ 20000 := by simp; omega
    have hll : (linesL s).length ≤ 20000 := by have := itemsL_length s; simp [linesL]; omega
    go_enter Try.func3, Try.ntmps3
    go_wp2_with fail
    (with_reducible refine (split_any s (by omega) _).mono ?_)
    rintro e w1 ⟨v, rfl, hown1, m1, rfl⟩
    obtain ⟨A, ca, rfl, hca, hca2, hA⟩ := own_rd hown1
    go_wp2_with fail
    (with_reducible refine (refSplit_any s (by omega) _).mono ?_)
    rintro e w1 ⟨v, rfl, hown2, m2, rfl⟩
    obtain ⟨B, cb, rfl, hcb, hcb2, hB⟩ := own_rd hown2
    go_wp2_with fail
    (with_reducible refine (lawSame_at A B ca cb _ _ (linesL s) (linesL s) _ (by exact hA.grows (Grows.of _ _)) hB (by omega) (by omega) rfl rfl).mono ?_)
    rw [sameL_self]
    rintro e w1 ⟨rfl, m3, rfl⟩
    have HO1 := Lib.hid hown1
    have HO2 := Lib.hid hown2
    clear hown1 hown2
    generalize hn : (linesL s).length = n at *
    go_wp2_with fail
    go_loopg [7] n (fun q i wr => ∃ (k : Nat) (xs : List Value), q + k = n ∧ i = .int .i64 k ∧ wr.ownsRow w.heap.size 9 1 (.slice A n ca) n xs ∧ wr.ownsRow (more w m1).heap.size 9 1 (.slice B n cb) n (lv (linesL s)) ∧ Below w.heap.size w wr)
    case atStart =>
      refine ⟨0, _, by omega, rfl, own_grows HO1.out ((Grows.of _ m2).more m3), own_grows HO2.out (Grows.of _ m3), (((Grows.of w m1).more m2).more m3).below⟩
    case round =>
      obtain ⟨k, xs, hq, rfl, hr1, hr2, hBl⟩ := hrel
      have HQ := Lib.hid hq
      have hkn : k ≤ n := by omega
      clear hq
      by_cases h2 : k < n
      · obtain ⟨g, rfl, hg1, hg2⟩ := own_some HO1.out (by omega)
        have c1 := hr1.cellAt k (by omega)
        have hxl : k < xs.length := by rw [hr1.1]; omega
        rw [List.getElem?_eq_getElem hxl] at c1
        have f1 := hr1.frozenAt k
        go_wp2_with fail
        go_roundg (gk - 1)
        case measure => have := HQ.out; omega
        case rel => exact ⟨k + 1, _, by have := HQ.out; omega, by go_num, (hr1.stored k _).1, ownsRow_setCell_below hr2 hg2 _, hBl.setCell (p := ⟨g, k, none⟩) hg1 _⟩
      · go_wp2_with fail
        (with_reducible refine (split_any s (by omega) _).mono ?_)
        subst hn
        rintro e w1 ⟨v, rfl, hown3, m4, rfl⟩
        obtain ⟨C, cc, rfl, hcc, hcc2, hC⟩ := own_rd hown3
        obtain ⟨B', cb', eB, hcb3, hcb4, hB'⟩ := own_rd hr2
        injection eB with eB1 eB2 eB3
        subst eB1 eB3
        go_wp2_with fail
        (with_reducible refine (lawSame_at C B cc cb _ _ (linesL s) (linesL s) _ hC (by exact hB'.grows (Grows.of _ _)) (by omega) (by omega) rfl rfl).mono ?_)
        rw [sameL_self]
        rintro e w1 ⟨rfl, m5, rfl⟩
        go_wp2_with fail
        (with_reducible refine (does_any _).mono ?_)
        rintro e w1 ⟨rfl, m6, rfl⟩
        go_wp2_with fail
        go_ret
        exact ⟨rfl, (((Grows.of_below hBl).more m4).more m5).more m6⟩
end Go.Proofs.Yteabpdahhjfaiaa
