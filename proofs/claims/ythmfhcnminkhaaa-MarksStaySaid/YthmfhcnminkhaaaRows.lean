/-
  No cell of these rows narrows 'for every input' (looked for: loops, veiled, ifaces, maps, wideKeys, modest, calm, conditions, laid).
  DERIVED. THE GIVEN ROWS OF THIS SEAT. 3 by the template 'for every input the law returns true; each argument reads behind the call as it read before'; 0 by the template 'total and deterministic' (their statements: YthmfhcnminkhaaaTotals.lean).
  GIVEN WITH THE SEED: the statements are not yours to turn. If you find one false, say at which input.
  Laid BY PROGRAM, IN A SANDBOX (cutbox-rows.mjs): the forced cells as the released guide's own fill.sh prints them over the translation 3cb22c0977781ed3… (all of the seat's roots in one cut). By AI agents, Wed Nov 11 2026. No macro, syntax, notation, axiom, sorry.
-/
import Derived.Test.YthmfhcnminkhaaaChecked
import GoSem.Claim
import GoSem.ClaimJoined
import GoSem.ClaimMapViews
import Derived.JoinedTies
import Derived.KernelRfl
namespace Go.Proofs.Ythmfhcnminkhaaa
/- THE CELL 'sum', in the pinned program and in every row, IS THE sha256 OF THE DUMP (.gsa) THAT YthmfhcnminkhaaaProg.lean LOADS. Nothing in Lean hashes anything: it is a label: what it is worth is what the hold of that sum in a sandbox is worth. -/
noncomputable def Try.pinned : Pinned := { name := "ythmfhcnminkhaaa", sum := "3cb22c0977781ed3717e15b3d6205fa8cecb9be5e28df8d1f8e335530f1121cf", checked := Try.checked }
namespace Rows
def none {H : Type} : Left H := { results := [], args := [] }

/-- 'inkhornlaw16.MarksTell': WHATEVER THE INPUT: true; the input reads as it did. -/
def marksTellSpec : ChangeSpec := { name := "marksTell", fn := fun _ => fun
  | [d1, d2, d3] => { results := [.lit (.bool true)], args := [d1, d2, d3] }
  | _ => none }
def marksTellRow : OpenClaim := { program := "ythmfhcnminkhaaa", sum := "3cb22c0977781ed3717e15b3d6205fa8cecb9be5e28df8d1f8e335530f1121cf", func := "inkhorn/inkhornlaw16.MarksTell", spec := "marksTell", apart := false }
def MarksTellSaid : Prop := marksTellRow.holds Try.pinned (OpenSpec.ofChange marksTellSpec)

/-- ITS FALSE NEIGHBOUR: 'it returns false'. Refute it at one input. -/
def marksTellWrong : ChangeSpec := { name := "marksTell", fn := fun _ => fun
  | [d1, d2, d3] => { results := [.lit (.bool false)], args := [d1, d2, d3] }
  | _ => none }
def MarksTellWrongFalsely : Prop := marksTellRow.holds Try.pinned (OpenSpec.ofChange marksTellWrong)

/-- 'inkhornlaw16.MarksAll': WHATEVER THE INPUT: true; the input reads as it did. -/
def marksAllSpec : ChangeSpec := { name := "marksAll", fn := fun _ => fun
  | [d1, d2] => { results := [.lit (.bool true)], args := [d1, d2] }
  | _ => none }
def marksAllRow : OpenClaim := { program := "ythmfhcnminkhaaa", sum := "3cb22c0977781ed3717e15b3d6205fa8cecb9be5e28df8d1f8e335530f1121cf", func := "inkhorn/inkhornlaw16.MarksAll", spec := "marksAll", apart := false }
def MarksAllSaid : Prop := marksAllRow.holds Try.pinned (OpenSpec.ofChange marksAllSpec)

/-- ITS FALSE NEIGHBOUR: 'it returns false'. Refute it at one input. -/
def marksAllWrong : ChangeSpec := { name := "marksAll", fn := fun _ => fun
  | [d1, d2] => { results := [.lit (.bool false)], args := [d1, d2] }
  | _ => none }
def MarksAllWrongFalsely : Prop := marksAllRow.holds Try.pinned (OpenSpec.ofChange marksAllWrong)

/-- 'inkhornlaw16.MarksStay': WHATEVER THE INPUT: true; the input reads as it did. -/
def marksStaySpec : ChangeSpec := { name := "marksStay", fn := fun _ => fun
  | [d1, d2] => { results := [.lit (.bool true)], args := [d1, d2] }
  | _ => none }
def marksStayRow : OpenClaim := { program := "ythmfhcnminkhaaa", sum := "3cb22c0977781ed3717e15b3d6205fa8cecb9be5e28df8d1f8e335530f1121cf", func := "inkhorn/inkhornlaw16.MarksStay", spec := "marksStay", inPlace := ["internal/bytealg.IndexByteString", "internal/bytealg.IndexString"], unfollowed := true, recurses := true, named := ["internal/bytealg.MaxLen"], apart := false }
def MarksStaySaid : Prop := marksStayRow.holds Try.pinned (OpenSpec.ofChange marksStaySpec)

/-- ITS FALSE NEIGHBOUR: 'it returns false'. Refute it at one input. -/
def marksStayWrong : ChangeSpec := { name := "marksStay", fn := fun _ => fun
  | [d1, d2] => { results := [.lit (.bool false)], args := [d1, d2] }
  | _ => none }
def MarksStayWrongFalsely : Prop := marksStayRow.holds Try.pinned (OpenSpec.ofChange marksStayWrong)

/- THE SECOND FORM. 'bulk': how many values and letters a reading holds, each counted each time it is reached (what is shared counts as often as it is met; a slice's spare places count too). A statement '..UptoSaid' is the law's where the arguments, and the package variables that the reading takes, are together of bulk at most 1048576: NARROWER than '..Said'. Prove '..Said' where nothing that the law and all that it calls make is longer than what came in: it says more and counts as full. Else prove '..UptoSaid'. A law counts once. -/
mutual
def uptoBulk {H : Type} : DataW H → Nat
  | .lit (.string bytes) => bytes.length + 1
  | .lit _ => 1
  | .nil => 1
  | .ptr d => uptoBulk d + 1
  | .slice elems spare => uptoBulkAll elems + uptoBulkAll spare + 1
  | .agg parts => uptoBulkAll parts + 1
  | .iface _ d => uptoBulk d + 1
  | .map entries => uptoBulkEntries entries + 1
  | .held _ => 1
def uptoBulkAll {H : Type} : List (DataW H) → Nat
  | [] => 0
  | d :: r => uptoBulk d + uptoBulkAll r
def uptoBulkEntries {H : Type} : List (Lit × DataW H) → Nat
  | [] => 0
  | x :: r => uptoBulkEntry x + uptoBulkEntries r
def uptoBulkEntry {H : Type} : Lit × DataW H → Nat
  | (.string bytes, d) => bytes.length + uptoBulk d + 1
  | (_, d) => uptoBulk d + 1
 end
def uptoSmall : (H : Type) → List (DataW H) → Bool := fun _ ds => decide (uptoBulkAll ds ≤ 1048576)
def OpenSpec.upto (s : _root_.Go.ChangeSpec) : _root_.Go.OpenSpec := { _root_.Go.OpenSpec.ofChange s with cond := some uptoSmall }

/-- 'inkhornlaw16.MarksTell', WHERE WHAT IT READS IS OF BULK AT MOST 1048576: true; the input reads as it did. -/
def marksTellUptoRow : OpenClaim := { program := "ythmfhcnminkhaaa", sum := "3cb22c0977781ed3717e15b3d6205fa8cecb9be5e28df8d1f8e335530f1121cf", func := "inkhorn/inkhornlaw16.MarksTell", spec := "marksTell", apart := false, narrowed := true }
def MarksTellUptoSaid : Prop := marksTellUptoRow.holds Try.pinned (OpenSpec.upto marksTellSpec)

/-- 'inkhornlaw16.MarksAll', WHERE WHAT IT READS IS OF BULK AT MOST 1048576: true; the input reads as it did. -/
def marksAllUptoRow : OpenClaim := { program := "ythmfhcnminkhaaa", sum := "3cb22c0977781ed3717e15b3d6205fa8cecb9be5e28df8d1f8e335530f1121cf", func := "inkhorn/inkhornlaw16.MarksAll", spec := "marksAll", apart := false, narrowed := true }
def MarksAllUptoSaid : Prop := marksAllUptoRow.holds Try.pinned (OpenSpec.upto marksAllSpec)

/-- 'inkhornlaw16.MarksStay', WHERE WHAT IT READS IS OF BULK AT MOST 1048576: true; the input reads as it did. -/
def marksStayUptoRow : OpenClaim := { program := "ythmfhcnminkhaaa", sum := "3cb22c0977781ed3717e15b3d6205fa8cecb9be5e28df8d1f8e335530f1121cf", func := "inkhorn/inkhornlaw16.MarksStay", spec := "marksStay", inPlace := ["internal/bytealg.IndexByteString", "internal/bytealg.IndexString"], unfollowed := true, recurses := true, named := ["internal/bytealg.MaxLen"], apart := false, narrowed := true }
def MarksStayUptoSaid : Prop := marksStayUptoRow.holds Try.pinned (OpenSpec.upto marksStaySpec)

end Rows
end Go.Proofs.Ythmfhcnminkhaaa
