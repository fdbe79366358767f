/-
  slices.Clone at a list of strings; parts of lines in memory.
-/
import Derived.Test.YtlhdbaaokgdabaaCheck
import Derived.Lib.AppendZerosOnto
import Derived.Lib.Walk
import Derived.Lib.SliceRun
namespace Go.Proofs.Ytlhdbaaokgdabaa
open Go.RowKit

/-- New memory that holds lines. -/
def NewLines (d : List (List UInt8)) (w : World) (e : Ending) (w' : World) : Prop := ∃ v, e = .returned v ∧ w'.ownsRow w.heap.size 9 1 v d.length (lv d) ∧ Grows w w'

theorem clone_any (A : Option Addr) (cap : Nat) (d : List (List UInt8)) (w : World) (hA : Rd w 1 A d.length (lv d)) (hd : d.length ≤ 8000000000000) (hnil : A = none → d.length = 0 ∧ cap = 0) :
    Calls Try.prog 33 #[.slice A d.length cap] w (NewLines d w) := by
  cases A with
  | none =>
    have h0 := (hnil rfl).1
    obtain rfl := List.eq_nil_of_length_eq_zero h0
    exact (Try.slices_Clone_string_nil _ _ w).mono fun e w' ⟨he, hw⟩ => ⟨_, he, World.ownsRow_nil _ _ _ _, hw ▸ Grows.refl _⟩
  | some a =>
    rcases Nat.eq_zero_or_pos d.length with h0 | h0
    · obtain rfl := List.eq_nil_of_length_eq_zero h0
      exact (Try.slices_Clone_string_zero a cap w).mono fun e w' ⟨v, he, hr, _, hb⟩ => ⟨v, he, hr, Grows.of_below hb⟩
    · obtain ⟨b, o, e, hb, hc⟩ := hA.2 h0
      injection e with e
      subst e
      have := Try.slices_Clone_string b o d.length cap (d.map tx) w (by simp) (by omega) (fun j hj => by
        have hj' : j < d.length := by simpa using hj
        rw [hc j (.string (tx d[j])) (by simp [lv, hj'])]
        simp [List.getD, hj'])
      exact this.mono fun e w' ⟨v, he, hr, _, hb⟩ => ⟨v, he, by simpa [lv, List.map_take, List.take_of_length_le] using hr, Grows.of_below hb⟩

/-- A part of what is to be laid one behind the other. -/
structure Part where
  A : Option Addr
  cap : Nat
  d : List (List UInt8)
def Part.val (p : Part) : Value := .slice p.A p.d.length p.cap
/-- It can be read. -/
def Part.ok (w : World) (p : Part) : Prop := Rd w 1 p.A p.d.length (lv p.d) ∧ (p.A = none → p.d.length = 0 ∧ p.cap = 0)
theorem Part.grows {w w' : World} {p : Part} (h : p.ok w) (hg : Grows w w') : p.ok w' := ⟨h.1.grows hg, h.2⟩
/-- All their lines. -/
def partsL : List Part → List (List UInt8)
  | [] => []
  | p :: ps => p.d ++ partsL ps
theorem partsL_append (a b : List Part) : partsL (a ++ b) = partsL a ++ partsL b := by
  induction a with
  | nil => rfl
  | cons p a ih => simp [partsL, ih]
theorem partsL_take (ps : List Part) (k : Nat) (h : k < ps.length) : partsL (ps.take (k + 1)) = partsL (ps.take k) ++ ps[k].d := by
  rw [List.take_add_one, List.getElem?_eq_getElem h, partsL_append]
  simp [partsL]
theorem partsL_le (ps : List Part) (k : Nat) : (partsL (ps.take k)).length ≤ (partsL ps).length := by
  conv => rhs; rw [← List.take_append_drop k ps, partsL_append]
  simp

end Go.Proofs.Ytlhdbaaokgdabaa
