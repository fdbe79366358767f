/-
  No cell of these rows narrows 'for every input' (looked for: loops, veiled, ifaces, maps, wideKeys, modest, calm, conditions, laid).
  DERIVED. THE GIVEN ROWS OF THIS SEAT. 4 by the template 'for every input the law returns true; each argument reads behind the call as it read before'; 0 by the template 'total and deterministic' (their statements: YtlhdbaaokgdabaaTotals.lean).
  GIVEN WITH THE SEED: the statements are not yours to turn. If you find one false, say at which input.
  Laid BY PROGRAM, IN A SANDBOX (cutbox-rows.mjs): the forced cells as the released guide's own fill.sh prints them over the translation 324d2f0dd4010e78… (all of the seat's roots in one cut). By AI agents, Wed Nov 11 2026. No macro, syntax, notation, axiom, sorry.
-/
import Derived.Test.YtlhdbaaokgdabaaChecked
import GoSem.Claim
import GoSem.ClaimJoined
import GoSem.ClaimMapViews
import Derived.JoinedTies
import Derived.KernelRfl
namespace Go.Proofs.Ytlhdbaaokgdabaa
/- THE CELL 'sum', in the pinned program and in every row, IS THE sha256 OF THE DUMP (.gsa) THAT YtlhdbaaokgdabaaProg.lean LOADS. Nothing in Lean hashes anything: it is a label: what it is worth is what the hold of that sum in a sandbox is worth. -/
noncomputable def Try.pinned : Pinned := { name := "ytlhdbaaokgdabaa", sum := "324d2f0dd4010e78c307c59a0c295cce6ef41baa57141b9c7f82b003be6b891b", checked := Try.checked }
namespace Rows
def none {H : Type} : Left H := { results := [], args := [] }

/-- 'inkhornlaw17.RegsPlay': WHATEVER THE INPUT: true; the input reads as it did. -/
def regsPlaySpec : ChangeSpec := { name := "regsPlay", fn := fun _ => fun
  | [d1, d2, d3] => { results := [.lit (.bool true)], args := [d1, d2, d3] }
  | _ => none }
def regsPlayRow : OpenClaim := { program := "ytlhdbaaokgdabaa", sum := "324d2f0dd4010e78c307c59a0c295cce6ef41baa57141b9c7f82b003be6b891b", func := "inkhorn/inkhornlaw17.RegsPlay", spec := "regsPlay", inPlace := ["internal/bytealg.IndexByteString", "internal/bytealg.IndexString"], unfollowed := true, recurses := true, named := ["internal/bytealg.MaxLen"], apart := false }
def RegsPlaySaid : Prop := regsPlayRow.holds Try.pinned (OpenSpec.ofChange regsPlaySpec)

/-- ITS FALSE NEIGHBOUR: 'it returns false'. Refute it at one input. -/
def regsPlayWrong : ChangeSpec := { name := "regsPlay", fn := fun _ => fun
  | [d1, d2, d3] => { results := [.lit (.bool false)], args := [d1, d2, d3] }
  | _ => none }
def RegsPlayWrongFalsely : Prop := regsPlayRow.holds Try.pinned (OpenSpec.ofChange regsPlayWrong)

/-- 'inkhornlaw17.RegsLast': WHATEVER THE INPUT: true; the input reads as it did. -/
def regsLastSpec : ChangeSpec := { name := "regsLast", fn := fun _ => fun
  | [d] => { results := [.lit (.bool true)], args := [d] }
  | _ => none }
def regsLastRow : OpenClaim := { program := "ytlhdbaaokgdabaa", sum := "324d2f0dd4010e78c307c59a0c295cce6ef41baa57141b9c7f82b003be6b891b", func := "inkhorn/inkhornlaw17.RegsLast", spec := "regsLast", inPlace := ["internal/bytealg.IndexByteString", "internal/bytealg.IndexString"], unfollowed := true, recurses := true, named := ["internal/bytealg.MaxLen"], apart := false }
def RegsLastSaid : Prop := regsLastRow.holds Try.pinned (OpenSpec.ofChange regsLastSpec)

/-- ITS FALSE NEIGHBOUR: 'it returns false'. Refute it at one input. -/
def regsLastWrong : ChangeSpec := { name := "regsLast", fn := fun _ => fun
  | [d] => { results := [.lit (.bool false)], args := [d] }
  | _ => none }
def RegsLastWrongFalsely : Prop := regsLastRow.holds Try.pinned (OpenSpec.ofChange regsLastWrong)

/-- 'inkhornlaw17.RegsNone': WHATEVER THE INPUT: true; the input reads as it did. -/
def regsNoneSpec : ChangeSpec := { name := "regsNone", fn := fun _ => fun
  | [d1, d2] => { results := [.lit (.bool true)], args := [d1, d2] }
  | _ => none }
def regsNoneRow : OpenClaim := { program := "ytlhdbaaokgdabaa", sum := "324d2f0dd4010e78c307c59a0c295cce6ef41baa57141b9c7f82b003be6b891b", func := "inkhorn/inkhornlaw17.RegsNone", spec := "regsNone", inPlace := ["internal/bytealg.IndexByteString", "internal/bytealg.IndexString", "maps.clone"], unfollowed := true, recurses := true, named := ["internal/bytealg.MaxLen"], apart := false }
def RegsNoneSaid : Prop := regsNoneRow.holds Try.pinned (OpenSpec.ofChange regsNoneSpec)

/-- ITS FALSE NEIGHBOUR: 'it returns false'. Refute it at one input. -/
def regsNoneWrong : ChangeSpec := { name := "regsNone", fn := fun _ => fun
  | [d1, d2] => { results := [.lit (.bool false)], args := [d1, d2] }
  | _ => none }
def RegsNoneWrongFalsely : Prop := regsNoneRow.holds Try.pinned (OpenSpec.ofChange regsNoneWrong)

/-- 'inkhornlaw17.RegsClone': WHATEVER THE INPUT: true; the input reads as it did. -/
def regsCloneSpec : ChangeSpec := { name := "regsClone", fn := fun _ => fun
  | [d1, d2] => { results := [.lit (.bool true)], args := [d1, d2] }
  | _ => none }
def regsCloneRow : OpenClaim := { program := "ytlhdbaaokgdabaa", sum := "324d2f0dd4010e78c307c59a0c295cce6ef41baa57141b9c7f82b003be6b891b", func := "inkhorn/inkhornlaw17.RegsClone", spec := "regsClone", inPlace := ["internal/bytealg.IndexByteString", "internal/bytealg.IndexString", "maps.clone"], unfollowed := true, recurses := true, named := ["internal/bytealg.MaxLen"], apart := false }
def RegsCloneSaid : Prop := regsCloneRow.holds Try.pinned (OpenSpec.ofChange regsCloneSpec)

/-- ITS FALSE NEIGHBOUR: 'it returns false'. Refute it at one input. -/
def regsCloneWrong : ChangeSpec := { name := "regsClone", fn := fun _ => fun
  | [d1, d2] => { results := [.lit (.bool false)], args := [d1, d2] }
  | _ => none }
def RegsCloneWrongFalsely : Prop := regsCloneRow.holds Try.pinned (OpenSpec.ofChange regsCloneWrong)

/- THE SECOND FORM. 'bulk': how many values and letters a reading holds, each counted each time it is reached (what is shared counts as often as it is met; a slice's spare places count too). A statement '..UptoSaid' is the law's where the arguments, and the package variables that the reading takes, are together of bulk at most 1048576: NARROWER than '..Said'. Prove '..Said' where nothing that the law and all that it calls make is longer than what came in: it says more and counts as full. Else prove '..UptoSaid'. A law counts once. -/
mutual
def uptoBulk {H : Type} : DataW H → Nat
  | .lit (.string bytes) => bytes.length + 1
  | .lit _ => 1
  | .nil => 1
  | .ptr d => uptoBulk d + 1
  | .slice elems spare => uptoBulkAll elems + uptoBulkAll spare + 1
  | .agg parts => uptoBulkAll parts + 1
  | .iface _ d => uptoBulk d + 1
  | .map entries => uptoBulkEntries entries + 1
  | .held _ => 1
def uptoBulkAll {H : Type} : List (DataW H) → Nat
  | [] => 0
  | d :: r => uptoBulk d + uptoBulkAll r
def uptoBulkEntries {H : Type} : List (Lit × DataW H) → Nat
  | [] => 0
  | x :: r => uptoBulkEntry x + uptoBulkEntries r
def uptoBulkEntry {H : Type} : Lit × DataW H → Nat
  | (.string bytes, d) => bytes.length + uptoBulk d + 1
  | (_, d) => uptoBulk d + 1
 end
def uptoSmall : (H : Type) → List (DataW H) → Bool := fun _ ds => decide (uptoBulkAll ds ≤ 1048576)
def OpenSpec.upto (s : _root_.Go.ChangeSpec) : _root_.Go.OpenSpec := { _root_.Go.OpenSpec.ofChange s with cond := some uptoSmall }

/-- 'inkhornlaw17.RegsPlay', WHERE WHAT IT READS IS OF BULK AT MOST 1048576: true; the input reads as it did. -/
def regsPlayUptoRow : OpenClaim := { program := "ytlhdbaaokgdabaa", sum := "324d2f0dd4010e78c307c59a0c295cce6ef41baa57141b9c7f82b003be6b891b", func := "inkhorn/inkhornlaw17.RegsPlay", spec := "regsPlay", inPlace := ["internal/bytealg.IndexByteString", "internal/bytealg.IndexString"], unfollowed := true, recurses := true, named := ["internal/bytealg.MaxLen"], apart := false, narrowed := true }
def RegsPlayUptoSaid : Prop := regsPlayUptoRow.holds Try.pinned (OpenSpec.upto regsPlaySpec)

/-- 'inkhornlaw17.RegsLast', WHERE WHAT IT READS IS OF BULK AT MOST 1048576: true; the input reads as it did. -/
def regsLastUptoRow : OpenClaim := { program := "ytlhdbaaokgdabaa", sum := "324d2f0dd4010e78c307c59a0c295cce6ef41baa57141b9c7f82b003be6b891b", func := "inkhorn/inkhornlaw17.RegsLast", spec := "regsLast", inPlace := ["internal/bytealg.IndexByteString", "internal/bytealg.IndexString"], unfollowed := true, recurses := true, named := ["internal/bytealg.MaxLen"], apart := false, narrowed := true }
def RegsLastUptoSaid : Prop := regsLastUptoRow.holds Try.pinned (OpenSpec.upto regsLastSpec)

/-- 'inkhornlaw17.RegsNone', WHERE WHAT IT READS IS OF BULK AT MOST 1048576: true; the input reads as it did. -/
def regsNoneUptoRow : OpenClaim := { program := "ytlhdbaaokgdabaa", sum := "324d2f0dd4010e78c307c59a0c295cce6ef41baa57141b9c7f82b003be6b891b", func := "inkhorn/inkhornlaw17.RegsNone", spec := "regsNone", inPlace := ["internal/bytealg.IndexByteString", "internal/bytealg.IndexString", "maps.clone"], unfollowed := true, recurses := true, named := ["internal/bytealg.MaxLen"], apart := false, narrowed := true }
def RegsNoneUptoSaid : Prop := regsNoneUptoRow.holds Try.pinned (OpenSpec.upto regsNoneSpec)

/-- 'inkhornlaw17.RegsClone', WHERE WHAT IT READS IS OF BULK AT MOST 1048576: true; the input reads as it did. -/
def regsCloneUptoRow : OpenClaim := { program := "ytlhdbaaokgdabaa", sum := "324d2f0dd4010e78c307c59a0c295cce6ef41baa57141b9c7f82b003be6b891b", func := "inkhorn/inkhornlaw17.RegsClone", spec := "regsClone", inPlace := ["internal/bytealg.IndexByteString", "internal/bytealg.IndexString", "maps.clone"], unfollowed := true, recurses := true, named := ["internal/bytealg.MaxLen"], apart := false, narrowed := true }
def RegsCloneUptoSaid : Prop := regsCloneUptoRow.holds Try.pinned (OpenSpec.upto regsCloneSpec)

end Rows
end Go.Proofs.Ytlhdbaaokgdabaa
