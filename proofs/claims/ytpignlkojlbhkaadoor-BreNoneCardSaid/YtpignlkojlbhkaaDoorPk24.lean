/-
  slices.Clone at a list of strings; parts of lines in memory.
-/
import Derived.Test.YtpignlkojlbhkaaDoorPk22
import Derived.Lib.AppendZerosOnto
import Derived.Lib.Walk
import Derived.Lib.SliceRun
namespace Go.Proofs.YtpignlkojlbhkaaDoor
open Go.RowKit

/-- New memory that holds lines. -/
def NewLines (d : List (List UInt8)) (w : World) (e : Ending) (w' : World) : Prop := ∃ v, e = .returned v ∧ w'.ownsRow w.heap.size 9 1 v d.length (lv d) ∧ Grows w w'

/-- A part of what is to be laid one behind the other. -/
structure Part where
  A : Option Addr
  cap : Nat
  d : List (List UInt8)
def Part.val (p : Part) : Value := .slice p.A p.d.length p.cap
/-- It can be read. -/
def Part.ok (w : World) (p : Part) : Prop := Rd w 1 p.A p.d.length (lv p.d) ∧ (p.A = none → p.d.length = 0 ∧ p.cap = 0)
set_option maxRecDepth 3000 in
theorem Part.grows {w w' : World} {p : Part} (h : p.ok w) (hg : Grows w w') : p.ok w' := ⟨h.1.grows hg, h.2⟩
/-- All their lines. -/
def partsL : List Part → List (List UInt8)
  | [] => []
  | p :: ps => p.d ++ partsL ps
set_option maxRecDepth 3000 in
theorem partsL_append (a b : List Part) : partsL (a ++ b) = partsL a ++ partsL b := by
  induction a with
  | nil => rfl
  | cons p a ih => simp [partsL, ih]
set_option maxRecDepth 3000 in
theorem partsL_take (ps : List Part) (k : Nat) (h : k < ps.length) : partsL (ps.take (k + 1)) = partsL (ps.take k) ++ ps[k].d := by
  rw [List.take_add_one, List.getElem?_eq_getElem h, partsL_append]
  simp [partsL]
set_option maxRecDepth 3000 in
theorem partsL_le (ps : List Part) (k : Nat) : (partsL (ps.take k)).length ≤ (partsL ps).length := by
  conv => rhs; rw [← List.take_append_drop k ps, partsL_append]
  simp

end Go.Proofs.YtpignlkojlbhkaaDoor
