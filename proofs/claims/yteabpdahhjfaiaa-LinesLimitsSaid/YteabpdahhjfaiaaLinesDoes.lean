/-
  Lines: the chapter's examples (does).
-/
import Derived.Test.YteabpdahhjfaiaaLinesJoin
namespace Go.Proofs.Yteabpdahhjfaiaa
open Go.RowKit

theorem own_rd {w : World} {base : Nat} {v : Value} {d : List (List UInt8)} (h : w.ownsRow base 9 1 v d.length (lv d)) : ∃ A cap, v = .slice A d.length cap ∧ d.length ≤ cap ∧ cap ≤ 9223372036854775807 ∧ Rd w 1 A d.length (lv d) := by
  have := Strs.of_own (ss := d.map tx) (by simpa [lv] using h)
  obtain ⟨A, cap, e, h1, h2, h3⟩ := this
  exact ⟨A, cap, by simpa using e, by simpa using h1, h2, by simpa [lv] using h3⟩
theorem rd_new (w : World) (cs : Array Value) (t : TypeId) (n g : Nat) (hn : cs.size = n) (hg : g = w.heap.size) : Rd (w.alloc (.cells cs t)) 1 (some ⟨g, 0, none⟩) n cs.toList := by
  subst hg hn
  refine ⟨by simp, fun _ => ⟨_, 0, rfl, by simp, fun j u hu => ?_⟩⟩
  rw [cell_of_row _ _ _ cs t (0, 0) (World.alloc_heap_new _ _), Nat.zero_add]
  simpa using hu
/-- Are lines the same? -/
def sameL (a b : List (List UInt8)) : Bool := decide (a = b)
theorem map_tx_inj : ∀ {a b : List (List UInt8)}, a.map tx = b.map tx → a = b
  | [], [], _ => rfl
  | [], _ :: _, h => by cases h
  | _ :: _, [], h => by cases h
  | x :: a, y :: b, h => by
    simp only [List.map_cons, List.cons.injEq] at h
    rw [tx_inj h.1, map_tx_inj h.2]
theorem sameV_tx (a b : List (List UInt8)) : sameV (a.map tx) (b.map tx) = sameL a b := by
  unfold sameV sameL
  by_cases h : a = b
  · subst h; simp
  · simp only [h, decide_false, decide_eq_false_iff_not]
    exact fun e => h (map_tx_inj e)
section
variable (A B : Option Addr) (ca cb na nb : Nat) (a b : List (List UInt8)) (w : World) (hA : Rd w 1 A a.length (lv a)) (hB : Rd w 1 B b.length (lv b)) (hca : a.length ≤ 9223372036854775807) (hcb : b.length ≤ 9223372036854775807) (ha : na = a.length) (hb : nb = b.length)
include hA hB hca hcb ha hb
theorem lawSame_at : Calls Try.prog 12 #[.slice A na ca, .slice B nb cb] w fun e w' => e = .returned (.bool (sameL a b)) ∧ Grows w w' := by
  subst ha hb
  have := lawSame_any A B ca cb (a.map tx) (b.map tx) w (by simpa [lv] using hA) (by simpa [lv] using hB) (by simpa using hca) (by simpa using hcb)
  rw [sameV_tx] at this
  simpa using this
theorem refSame_at : Calls Try.prog 16 #[.slice A na ca, .slice B nb cb] w fun e w' => e = .returned (.bool (sameL a b)) ∧ Grows w w' := by
  subst ha hb
  have := refSame_any A B ca cb (a.map tx) (b.map tx) w (by simpa [lv] using hA) (by simpa [lv] using hB) (by simpa using hca) (by simpa using hcb)
  rw [sameV_tx] at this
  simpa using this
theorem linesSame_at : Calls Try.prog 15 #[.slice A na ca, .slice B nb cb] w fun e w' => e = .returned (.bool (sameL a b)) ∧ Grows w w' := by
  subst ha hb
  have := linesSame_any A B ca cb (a.map tx) (b.map tx) w (by simpa [lv] using hA) (by simpa [lv] using hB) (by simpa using hca) (by simpa using hcb)
  rw [sameV_tx] at this
  simpa using this
end

set_option maxHeartbeats 1000000 in
theorem does_any (w : World) : Calls Try.prog 13 #[] w fun e w' => e = .returned (.bool true) ∧ Grows w w' := by
  go_enter Try.func13, Try.ntmps13
  go_wp2_with fail
  change Calls _ _ #[.string (tx [97, 10, 10, 98])] _ _
  (with_reducible refine (split_any _ (by decide) _).mono ?_)
  rintro e w1 ⟨v, rfl, hown, m1, rfl⟩
  obtain ⟨A, ca, rfl, hca, hca2, hA⟩ := own_rd hown
  rw [show linesL [97, 10, 10, 98] = [[97], [], [98]] from rfl, show endedL [97, 10, 10, 98] = false from rfl] at *
  clear hown
  go_wp2_with fail
  change Calls _ _ #[.string (tx [97, 13, 10])] _ _
  (with_reducible refine (split_any _ (by decide) _).mono ?_)
  rintro e w1 ⟨v, rfl, hown, m2, rfl⟩
  obtain ⟨B, cb, rfl, hcb, hcb2, hB⟩ := own_rd hown
  rw [show linesL [97, 13, 10] = [[97, 13]] from rfl, show endedL [97, 13, 10] = true from rfl] at *
  clear hown
  go_wp2_with fail
  (with_reducible refine (lawSame_at A _ ca 3 3 3 [[97], [], [98]] [[97], [], [98]] _ (by exact hA.grows (by repeat' first | exact Grows.refl _ | refine Grows.more ?_ _ | refine Grows.alloc ?_ _)) (rd_new _ _ _ 3 _ rfl (by simp)) (by decide) (by decide) rfl rfl).mono ?_)
  rw [show sameL [[97], [], [98]] [[97], [], [98]] = true by decide]
  rintro e w1 ⟨rfl, m3, rfl⟩
  go_wp2_with fail
  (with_reducible refine (lawSame_at B _ cb 1 1 1 [[97, 13]] [[97, 13]] _ (by exact hB.grows (by repeat' first | exact Grows.refl _ | refine Grows.more ?_ _ | refine Grows.alloc ?_ _)) (rd_new _ _ _ 1 _ rfl (by simp)) (by decide) (by decide) rfl rfl).mono ?_)
  rw [show sameL [[97, 13]] [[97, 13]] = true by decide]
  rintro e w1 ⟨rfl, m4, rfl⟩
  go_wp2_with fail
  change Calls _ _ #[.slice A ([[97], [], [98]] : List (List UInt8)).length ca] _ _
  (with_reducible refine (join_any A ca [[97], [], [98]] _ (by exact hA.grows (by repeat' first | exact Grows.refl _ | refine Grows.more ?_ _ | refine Grows.alloc ?_ _)) (by decide) (by decide)).mono ?_)
  rw [show tx (joinL [[97], [], [98]]) = ⟨#[97, 10, 10, 98, 10]⟩ from rfl]
  rintro e w1 ⟨rfl, m5, rfl⟩
  go_wp2_with fail
  (with_reducible refine (linesSame_at A B ca cb 3 1 [[97], [], [98]] [[97, 13]] _ (by exact hA.grows (by repeat' first | exact Grows.refl _ | refine Grows.more ?_ _ | refine Grows.alloc ?_ _)) (by exact hB.grows (by repeat' first | exact Grows.refl _ | refine Grows.more ?_ _ | refine Grows.alloc ?_ _)) (by decide) (by decide) rfl rfl).mono ?_)
  rw [show sameL [[97], [], [98]] [[97, 13]] = false by decide]
  rintro e w1 ⟨rfl, m6, rfl⟩
  go_wp2_with fail
  go_ret
  exact ⟨rfl, by repeat' first | exact Grows.refl _ | refine Grows.more ?_ _ | refine Grows.alloc ?_ _⟩
end Go.Proofs.Yteabpdahhjfaiaa
