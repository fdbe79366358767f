/-
  No cell of these rows narrows 'for every input' (looked for: loops, veiled, ifaces, maps, wideKeys, modest, calm, conditions, laid).
  DERIVED. THE GIVEN ROWS OF THIS SEAT. 7 by the template 'for every input the law returns true; each argument reads behind the call as it read before'; 0 by the template 'total and deterministic' (their statements: YtcfkniejpeakdaaTotals.lean).
  GIVEN WITH THE SEED: the statements are not yours to turn. If you find one false, say at which input.
  Laid BY PROGRAM, IN A SANDBOX (cutbox-rows.mjs): the forced cells as the released guide's own fill.sh prints them over the translation b64ebfbb81319540… (all of the seat's roots in one cut). By AI agents, Wed Nov 11 2026. No macro, syntax, notation, axiom, sorry.
-/
import Derived.Test.YtcfkniejpeakdaaChecked
import GoSem.Claim
import GoSem.ClaimJoined
import GoSem.ClaimMapViews
import Derived.JoinedTies
import Derived.KernelRfl
namespace Go.Proofs.Ytcfkniejpeakdaa
/- THE CELL 'sum', in the pinned program and in every row, IS THE sha256 OF THE DUMP (.gsa) THAT YtcfkniejpeakdaaProg.lean LOADS. Nothing in Lean hashes anything: it is a label: what it is worth is what the hold of that sum in a sandbox is worth. -/
noncomputable def Try.pinned : Pinned := { name := "ytcfkniejpeakdaa", sum := "b64ebfbb813195405b2b8ad218fb53527935f4c75c04e405b7544b41c35215c5", checked := Try.checked }
namespace Rows
def none {H : Type} : Left H := { results := [], args := [] }

/-- 'inkhornlaw08.ClassesParse': WHATEVER THE INPUT: true; the input reads as it did. -/
def classesParseSpec : ChangeSpec := { name := "classesParse", fn := fun _ => fun
  | [d1, d2] => { results := [.lit (.bool true)], args := [d1, d2] }
  | _ => none }
def classesParseRow : OpenClaim := { program := "ytcfkniejpeakdaa", sum := "b64ebfbb813195405b2b8ad218fb53527935f4c75c04e405b7544b41c35215c5", func := "inkhorn/inkhornlaw08.ClassesParse", spec := "classesParse", inPlace := ["internal/bytealg.IndexByteString", "internal/bytealg.IndexString"], unfollowed := true, recurses := true, named := ["internal/bytealg.MaxLen"], apart := false }
def ClassesParseSaid : Prop := classesParseRow.holds Try.pinned (OpenSpec.ofChange classesParseSpec)

/-- ITS FALSE NEIGHBOUR: 'it returns false'. Refute it at one input. -/
def classesParseWrong : ChangeSpec := { name := "classesParse", fn := fun _ => fun
  | [d1, d2] => { results := [.lit (.bool false)], args := [d1, d2] }
  | _ => none }
def ClassesParseWrongFalsely : Prop := classesParseRow.holds Try.pinned (OpenSpec.ofChange classesParseWrong)

/-- 'inkhornlaw08.ClassesNamed': WHATEVER THE INPUT: true; the input reads as it did. -/
def classesNamedSpec : ChangeSpec := { name := "classesNamed", fn := fun _ => fun
  | [d] => { results := [.lit (.bool true)], args := [d] }
  | _ => none }
def classesNamedRow : OpenClaim := { program := "ytcfkniejpeakdaa", sum := "b64ebfbb813195405b2b8ad218fb53527935f4c75c04e405b7544b41c35215c5", func := "inkhorn/inkhornlaw08.ClassesNamed", spec := "classesNamed", inPlace := ["internal/bytealg.IndexByteString", "internal/bytealg.IndexString"], unfollowed := true, recurses := true, named := ["internal/bytealg.MaxLen"], apart := false }
def ClassesNamedSaid : Prop := classesNamedRow.holds Try.pinned (OpenSpec.ofChange classesNamedSpec)

/-- ITS FALSE NEIGHBOUR: 'it returns false'. Refute it at one input. -/
def classesNamedWrong : ChangeSpec := { name := "classesNamed", fn := fun _ => fun
  | [d] => { results := [.lit (.bool false)], args := [d] }
  | _ => none }
def ClassesNamedWrongFalsely : Prop := classesNamedRow.holds Try.pinned (OpenSpec.ofChange classesNamedWrong)

/-- 'inkhornlaw08.ClassesAround': WHATEVER THE INPUT: true; the input reads as it did. -/
def classesAroundSpec : ChangeSpec := { name := "classesAround", fn := fun _ => fun
  | [d1, d2, d3] => { results := [.lit (.bool true)], args := [d1, d2, d3] }
  | _ => none }
def classesAroundRow : OpenClaim := { program := "ytcfkniejpeakdaa", sum := "b64ebfbb813195405b2b8ad218fb53527935f4c75c04e405b7544b41c35215c5", func := "inkhorn/inkhornlaw08.ClassesAround", spec := "classesAround", inPlace := ["internal/bytealg.IndexByteString", "internal/bytealg.IndexString"], unfollowed := true, recurses := true, named := ["internal/bytealg.MaxLen"], apart := false }
def ClassesAroundSaid : Prop := classesAroundRow.holds Try.pinned (OpenSpec.ofChange classesAroundSpec)

/-- ITS FALSE NEIGHBOUR: 'it returns false'. Refute it at one input. -/
def classesAroundWrong : ChangeSpec := { name := "classesAround", fn := fun _ => fun
  | [d1, d2, d3] => { results := [.lit (.bool false)], args := [d1, d2, d3] }
  | _ => none }
def ClassesAroundWrongFalsely : Prop := classesAroundRow.holds Try.pinned (OpenSpec.ofChange classesAroundWrong)

/-- 'inkhornlaw08.ClassesNot': WHATEVER THE INPUT: true; the input reads as it did. -/
def classesNotSpec : ChangeSpec := { name := "classesNot", fn := fun _ => fun
  | [d] => { results := [.lit (.bool true)], args := [d] }
  | _ => none }
def classesNotRow : OpenClaim := { program := "ytcfkniejpeakdaa", sum := "b64ebfbb813195405b2b8ad218fb53527935f4c75c04e405b7544b41c35215c5", func := "inkhorn/inkhornlaw08.ClassesNot", spec := "classesNot", inPlace := ["internal/bytealg.IndexByteString", "internal/bytealg.IndexString"], unfollowed := true, recurses := true, named := ["internal/bytealg.MaxLen"], apart := false }
def ClassesNotSaid : Prop := classesNotRow.holds Try.pinned (OpenSpec.ofChange classesNotSpec)

/-- ITS FALSE NEIGHBOUR: 'it returns false'. Refute it at one input. -/
def classesNotWrong : ChangeSpec := { name := "classesNot", fn := fun _ => fun
  | [d] => { results := [.lit (.bool false)], args := [d] }
  | _ => none }
def ClassesNotWrongFalsely : Prop := classesNotRow.holds Try.pinned (OpenSpec.ofChange classesNotWrong)

/-- 'inkhornlaw08.ClassesList': WHATEVER THE INPUT: true; the input reads as it did. -/
def classesListSpec : ChangeSpec := { name := "classesList", fn := fun _ => fun
  | [d1, d2, d3] => { results := [.lit (.bool true)], args := [d1, d2, d3] }
  | _ => none }
def classesListRow : OpenClaim := { program := "ytcfkniejpeakdaa", sum := "b64ebfbb813195405b2b8ad218fb53527935f4c75c04e405b7544b41c35215c5", func := "inkhorn/inkhornlaw08.ClassesList", spec := "classesList", inPlace := ["internal/bytealg.IndexByteString", "internal/bytealg.IndexString"], unfollowed := true, recurses := true, named := ["internal/bytealg.MaxLen"], apart := false }
def ClassesListSaid : Prop := classesListRow.holds Try.pinned (OpenSpec.ofChange classesListSpec)

/-- ITS FALSE NEIGHBOUR: 'it returns false'. Refute it at one input. -/
def classesListWrong : ChangeSpec := { name := "classesList", fn := fun _ => fun
  | [d1, d2, d3] => { results := [.lit (.bool false)], args := [d1, d2, d3] }
  | _ => none }
def ClassesListWrongFalsely : Prop := classesListRow.holds Try.pinned (OpenSpec.ofChange classesListWrong)

/-- 'inkhornlaw08.ClassesParts': WHATEVER THE INPUT: true; the input reads as it did. -/
def classesPartsSpec : ChangeSpec := { name := "classesParts", fn := fun _ => fun
  | [d] => { results := [.lit (.bool true)], args := [d] }
  | _ => none }
def classesPartsRow : OpenClaim := { program := "ytcfkniejpeakdaa", sum := "b64ebfbb813195405b2b8ad218fb53527935f4c75c04e405b7544b41c35215c5", func := "inkhorn/inkhornlaw08.ClassesParts", spec := "classesParts", inPlace := ["internal/bytealg.IndexByteString", "internal/bytealg.IndexString"], unfollowed := true, recurses := true, named := ["internal/bytealg.MaxLen"], apart := false }
def ClassesPartsSaid : Prop := classesPartsRow.holds Try.pinned (OpenSpec.ofChange classesPartsSpec)

/-- ITS FALSE NEIGHBOUR: 'it returns false'. Refute it at one input. -/
def classesPartsWrong : ChangeSpec := { name := "classesParts", fn := fun _ => fun
  | [d] => { results := [.lit (.bool false)], args := [d] }
  | _ => none }
def ClassesPartsWrongFalsely : Prop := classesPartsRow.holds Try.pinned (OpenSpec.ofChange classesPartsWrong)

/-- 'inkhornlaw08.ClassesJoin': WHATEVER THE INPUT: true; the input reads as it did. -/
def classesJoinSpec : ChangeSpec := { name := "classesJoin", fn := fun _ => fun
  | [d1, d2] => { results := [.lit (.bool true)], args := [d1, d2] }
  | _ => none }
def classesJoinRow : OpenClaim := { program := "ytcfkniejpeakdaa", sum := "b64ebfbb813195405b2b8ad218fb53527935f4c75c04e405b7544b41c35215c5", func := "inkhorn/inkhornlaw08.ClassesJoin", spec := "classesJoin", inPlace := ["internal/bytealg.IndexByteString", "internal/bytealg.IndexString"], unfollowed := true, recurses := true, named := ["internal/bytealg.MaxLen"], apart := false }
def ClassesJoinSaid : Prop := classesJoinRow.holds Try.pinned (OpenSpec.ofChange classesJoinSpec)

/-- ITS FALSE NEIGHBOUR: 'it returns false'. Refute it at one input. -/
def classesJoinWrong : ChangeSpec := { name := "classesJoin", fn := fun _ => fun
  | [d1, d2] => { results := [.lit (.bool false)], args := [d1, d2] }
  | _ => none }
def ClassesJoinWrongFalsely : Prop := classesJoinRow.holds Try.pinned (OpenSpec.ofChange classesJoinWrong)

/- THE SECOND FORM. 'bulk': how many values and letters a reading holds, each counted each time it is reached (what is shared counts as often as it is met; a slice's spare places count too). A statement '..UptoSaid' is the law's where the arguments, and the package variables that the reading takes, are together of bulk at most 1048576: NARROWER than '..Said'. Prove '..Said' where nothing that the law and all that it calls make is longer than what came in: it says more and counts as full. Else prove '..UptoSaid'. A law counts once. -/
mutual
def uptoBulk {H : Type} : DataW H → Nat
  | .lit (.string bytes) => bytes.length + 1
  | .lit _ => 1
  | .nil => 1
  | .ptr d => uptoBulk d + 1
  | .slice elems spare => uptoBulkAll elems + uptoBulkAll spare + 1
  | .agg parts => uptoBulkAll parts + 1
  | .iface _ d => uptoBulk d + 1
  | .map entries => uptoBulkEntries entries + 1
  | .held _ => 1
def uptoBulkAll {H : Type} : List (DataW H) → Nat
  | [] => 0
  | d :: r => uptoBulk d + uptoBulkAll r
def uptoBulkEntries {H : Type} : List (Lit × DataW H) → Nat
  | [] => 0
  | x :: r => uptoBulkEntry x + uptoBulkEntries r
def uptoBulkEntry {H : Type} : Lit × DataW H → Nat
  | (.string bytes, d) => bytes.length + uptoBulk d + 1
  | (_, d) => uptoBulk d + 1
 end
def uptoSmall : (H : Type) → List (DataW H) → Bool := fun _ ds => decide (uptoBulkAll ds ≤ 1048576)
def OpenSpec.upto (s : _root_.Go.ChangeSpec) : _root_.Go.OpenSpec := { _root_.Go.OpenSpec.ofChange s with cond := some uptoSmall }

/-- 'inkhornlaw08.ClassesParse', WHERE WHAT IT READS IS OF BULK AT MOST 1048576: true; the input reads as it did. -/
def classesParseUptoRow : OpenClaim := { program := "ytcfkniejpeakdaa", sum := "b64ebfbb813195405b2b8ad218fb53527935f4c75c04e405b7544b41c35215c5", func := "inkhorn/inkhornlaw08.ClassesParse", spec := "classesParse", inPlace := ["internal/bytealg.IndexByteString", "internal/bytealg.IndexString"], unfollowed := true, recurses := true, named := ["internal/bytealg.MaxLen"], apart := false, narrowed := true }
def ClassesParseUptoSaid : Prop := classesParseUptoRow.holds Try.pinned (OpenSpec.upto classesParseSpec)

/-- 'inkhornlaw08.ClassesNamed', WHERE WHAT IT READS IS OF BULK AT MOST 1048576: true; the input reads as it did. -/
def classesNamedUptoRow : OpenClaim := { program := "ytcfkniejpeakdaa", sum := "b64ebfbb813195405b2b8ad218fb53527935f4c75c04e405b7544b41c35215c5", func := "inkhorn/inkhornlaw08.ClassesNamed", spec := "classesNamed", inPlace := ["internal/bytealg.IndexByteString", "internal/bytealg.IndexString"], unfollowed := true, recurses := true, named := ["internal/bytealg.MaxLen"], apart := false, narrowed := true }
def ClassesNamedUptoSaid : Prop := classesNamedUptoRow.holds Try.pinned (OpenSpec.upto classesNamedSpec)

/-- 'inkhornlaw08.ClassesAround', WHERE WHAT IT READS IS OF BULK AT MOST 1048576: true; the input reads as it did. -/
def classesAroundUptoRow : OpenClaim := { program := "ytcfkniejpeakdaa", sum := "b64ebfbb813195405b2b8ad218fb53527935f4c75c04e405b7544b41c35215c5", func := "inkhorn/inkhornlaw08.ClassesAround", spec := "classesAround", inPlace := ["internal/bytealg.IndexByteString", "internal/bytealg.IndexString"], unfollowed := true, recurses := true, named := ["internal/bytealg.MaxLen"], apart := false, narrowed := true }
def ClassesAroundUptoSaid : Prop := classesAroundUptoRow.holds Try.pinned (OpenSpec.upto classesAroundSpec)

/-- 'inkhornlaw08.ClassesNot', WHERE WHAT IT READS IS OF BULK AT MOST 1048576: true; the input reads as it did. -/
def classesNotUptoRow : OpenClaim := { program := "ytcfkniejpeakdaa", sum := "b64ebfbb813195405b2b8ad218fb53527935f4c75c04e405b7544b41c35215c5", func := "inkhorn/inkhornlaw08.ClassesNot", spec := "classesNot", inPlace := ["internal/bytealg.IndexByteString", "internal/bytealg.IndexString"], unfollowed := true, recurses := true, named := ["internal/bytealg.MaxLen"], apart := false, narrowed := true }
def ClassesNotUptoSaid : Prop := classesNotUptoRow.holds Try.pinned (OpenSpec.upto classesNotSpec)

/-- 'inkhornlaw08.ClassesList', WHERE WHAT IT READS IS OF BULK AT MOST 1048576: true; the input reads as it did. -/
def classesListUptoRow : OpenClaim := { program := "ytcfkniejpeakdaa", sum := "b64ebfbb813195405b2b8ad218fb53527935f4c75c04e405b7544b41c35215c5", func := "inkhorn/inkhornlaw08.ClassesList", spec := "classesList", inPlace := ["internal/bytealg.IndexByteString", "internal/bytealg.IndexString"], unfollowed := true, recurses := true, named := ["internal/bytealg.MaxLen"], apart := false, narrowed := true }
def ClassesListUptoSaid : Prop := classesListUptoRow.holds Try.pinned (OpenSpec.upto classesListSpec)

/-- 'inkhornlaw08.ClassesParts', WHERE WHAT IT READS IS OF BULK AT MOST 1048576: true; the input reads as it did. -/
def classesPartsUptoRow : OpenClaim := { program := "ytcfkniejpeakdaa", sum := "b64ebfbb813195405b2b8ad218fb53527935f4c75c04e405b7544b41c35215c5", func := "inkhorn/inkhornlaw08.ClassesParts", spec := "classesParts", inPlace := ["internal/bytealg.IndexByteString", "internal/bytealg.IndexString"], unfollowed := true, recurses := true, named := ["internal/bytealg.MaxLen"], apart := false, narrowed := true }
def ClassesPartsUptoSaid : Prop := classesPartsUptoRow.holds Try.pinned (OpenSpec.upto classesPartsSpec)

/-- 'inkhornlaw08.ClassesJoin', WHERE WHAT IT READS IS OF BULK AT MOST 1048576: true; the input reads as it did. -/
def classesJoinUptoRow : OpenClaim := { program := "ytcfkniejpeakdaa", sum := "b64ebfbb813195405b2b8ad218fb53527935f4c75c04e405b7544b41c35215c5", func := "inkhorn/inkhornlaw08.ClassesJoin", spec := "classesJoin", inPlace := ["internal/bytealg.IndexByteString", "internal/bytealg.IndexString"], unfollowed := true, recurses := true, named := ["internal/bytealg.MaxLen"], apart := false, narrowed := true }
def ClassesJoinUptoSaid : Prop := classesJoinUptoRow.holds Try.pinned (OpenSpec.upto classesJoinSpec)

end Rows
end Go.Proofs.Ytcfkniejpeakdaa
