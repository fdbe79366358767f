/-
  No cell of these rows narrows 'for every input' (looked for: loops, veiled, ifaces, maps, wideKeys, modest, calm, conditions, laid).
  DERIVED. THE GIVEN ROWS OF THIS SEAT. 4 by the template 'for every input the law returns true; each argument reads behind the call as it read before'; 0 by the template 'total and deterministic' (their statements: YthanghgfakibnaaTotals.lean).
  GIVEN WITH THE SEED: the statements are not yours to turn. If you find one false, say at which input.
  Laid BY PROGRAM, IN A SANDBOX (cutbox-rows.mjs): the forced cells as the released guide's own fill.sh prints them over the translation 4736923b5ad3c4b1… (all of the seat's roots in one cut). By AI agents, Wed Nov 11 2026. No macro, syntax, notation, axiom, sorry.
-/
import Derived.Test.YthanghgfakibnaaChecked
import GoSem.Claim
import GoSem.ClaimJoined
import GoSem.ClaimMapViews
import Derived.JoinedTies
import Derived.KernelRfl
namespace Go.Proofs.Ythanghgfakibnaa
/- THE CELL 'sum', in the pinned program and in every row, IS THE sha256 OF THE DUMP (.gsa) THAT YthanghgfakibnaaProg.lean LOADS. Nothing in Lean hashes anything: it is a label: what it is worth is what the hold of that sum in a sandbox is worth. -/
noncomputable def Try.pinned : Pinned := { name := "ythanghgfakibnaa", sum := "4736923b5ad3c4b1df7a9ac2fe654fa083d9e2de9f97f91e3ce0c79d038944ff", checked := Try.checked }
namespace Rows
def none {H : Type} : Left H := { results := [], args := [] }

/-- 'inkhornlaw19.CoreNone': WHATEVER THE INPUT: true; the input reads as it did. -/
def coreNoneSpec : ChangeSpec := { name := "coreNone", fn := fun _ => fun
  | [d] => { results := [.lit (.bool true)], args := [d] }
  | _ => none }
def coreNoneRow : OpenClaim := { program := "ythanghgfakibnaa", sum := "4736923b5ad3c4b1df7a9ac2fe654fa083d9e2de9f97f91e3ce0c79d038944ff", func := "inkhorn/inkhornlaw19.CoreNone", spec := "coreNone", inPlace := ["internal/bytealg.IndexByteString", "internal/bytealg.IndexString", "maps.clone"], unfollowed := true, recurses := true, named := ["internal/bytealg.MaxLen"], apart := false }
def CoreNoneSaid : Prop := coreNoneRow.holds Try.pinned (OpenSpec.ofChange coreNoneSpec)

/-- ITS FALSE NEIGHBOUR: 'it returns false'. Refute it at one input. -/
def coreNoneWrong : ChangeSpec := { name := "coreNone", fn := fun _ => fun
  | [d] => { results := [.lit (.bool false)], args := [d] }
  | _ => none }
def CoreNoneWrongFalsely : Prop := coreNoneRow.holds Try.pinned (OpenSpec.ofChange coreNoneWrong)

/-- 'inkhornlaw19.CoreUndo': WHATEVER THE INPUT: true; the input reads as it did. -/
def coreUndoSpec : ChangeSpec := { name := "coreUndo", fn := fun _ => fun
  | [d1, d2, d3] => { results := [.lit (.bool true)], args := [d1, d2, d3] }
  | _ => none }
def coreUndoRow : OpenClaim := { program := "ythanghgfakibnaa", sum := "4736923b5ad3c4b1df7a9ac2fe654fa083d9e2de9f97f91e3ce0c79d038944ff", func := "inkhorn/inkhornlaw19.CoreUndo", spec := "coreUndo", inPlace := ["internal/bytealg.IndexByteString", "internal/bytealg.IndexString", "maps.clone"], unfollowed := true, recurses := true, named := ["internal/bytealg.MaxLen"], apart := false }
def CoreUndoSaid : Prop := coreUndoRow.holds Try.pinned (OpenSpec.ofChange coreUndoSpec)

/-- ITS FALSE NEIGHBOUR: 'it returns false'. Refute it at one input. -/
def coreUndoWrong : ChangeSpec := { name := "coreUndo", fn := fun _ => fun
  | [d1, d2, d3] => { results := [.lit (.bool false)], args := [d1, d2, d3] }
  | _ => none }
def CoreUndoWrongFalsely : Prop := coreUndoRow.holds Try.pinned (OpenSpec.ofChange coreUndoWrong)

/-- 'inkhornlaw19.CoreAbort': WHATEVER THE INPUT: true; the input reads as it did. -/
def coreAbortSpec : ChangeSpec := { name := "coreAbort", fn := fun _ => fun
  | [d1, d2, d3] => { results := [.lit (.bool true)], args := [d1, d2, d3] }
  | _ => none }
def coreAbortRow : OpenClaim := { program := "ythanghgfakibnaa", sum := "4736923b5ad3c4b1df7a9ac2fe654fa083d9e2de9f97f91e3ce0c79d038944ff", func := "inkhorn/inkhornlaw19.CoreAbort", spec := "coreAbort", inPlace := ["internal/bytealg.IndexByteString", "internal/bytealg.IndexString", "maps.clone"], unfollowed := true, recurses := true, named := ["internal/bytealg.MaxLen"], apart := false }
def CoreAbortSaid : Prop := coreAbortRow.holds Try.pinned (OpenSpec.ofChange coreAbortSpec)

/-- ITS FALSE NEIGHBOUR: 'it returns false'. Refute it at one input. -/
def coreAbortWrong : ChangeSpec := { name := "coreAbort", fn := fun _ => fun
  | [d1, d2, d3] => { results := [.lit (.bool false)], args := [d1, d2, d3] }
  | _ => none }
def CoreAbortWrongFalsely : Prop := coreAbortRow.holds Try.pinned (OpenSpec.ofChange coreAbortWrong)

/-- 'inkhornlaw19.CorePlays': WHATEVER THE INPUT: true; the input reads as it did. -/
def corePlaysSpec : ChangeSpec := { name := "corePlays", fn := fun _ => fun
  | [d1, d2] => { results := [.lit (.bool true)], args := [d1, d2] }
  | _ => none }
def corePlaysRow : OpenClaim := { program := "ythanghgfakibnaa", sum := "4736923b5ad3c4b1df7a9ac2fe654fa083d9e2de9f97f91e3ce0c79d038944ff", func := "inkhorn/inkhornlaw19.CorePlays", spec := "corePlays", inPlace := ["internal/bytealg.IndexByteString", "internal/bytealg.IndexString", "maps.clone"], unfollowed := true, recurses := true, named := ["internal/bytealg.MaxLen"], apart := false }
def CorePlaysSaid : Prop := corePlaysRow.holds Try.pinned (OpenSpec.ofChange corePlaysSpec)

/-- ITS FALSE NEIGHBOUR: 'it returns false'. Refute it at one input. -/
def corePlaysWrong : ChangeSpec := { name := "corePlays", fn := fun _ => fun
  | [d1, d2] => { results := [.lit (.bool false)], args := [d1, d2] }
  | _ => none }
def CorePlaysWrongFalsely : Prop := corePlaysRow.holds Try.pinned (OpenSpec.ofChange corePlaysWrong)

/- THE SECOND FORM. 'bulk': how many values and letters a reading holds, each counted each time it is reached (what is shared counts as often as it is met; a slice's spare places count too). A statement '..UptoSaid' is the law's where the arguments, and the package variables that the reading takes, are together of bulk at most 1048576: NARROWER than '..Said'. Prove '..Said' where nothing that the law and all that it calls make is longer than what came in: it says more and counts as full. Else prove '..UptoSaid'. A law counts once. -/
mutual
def uptoBulk {H : Type} : DataW H → Nat
  | .lit (.string bytes) => bytes.length + 1
  | .lit _ => 1
  | .nil => 1
  | .ptr d => uptoBulk d + 1
  | .slice elems spare => uptoBulkAll elems + uptoBulkAll spare + 1
  | .agg parts => uptoBulkAll parts + 1
  | .iface _ d => uptoBulk d + 1
  | .map entries => uptoBulkEntries entries + 1
  | .held _ => 1
def uptoBulkAll {H : Type} : List (DataW H) → Nat
  | [] => 0
  | d :: r => uptoBulk d + uptoBulkAll r
def uptoBulkEntries {H : Type} : List (Lit × DataW H) → Nat
  | [] => 0
  | x :: r => uptoBulkEntry x + uptoBulkEntries r
def uptoBulkEntry {H : Type} : Lit × DataW H → Nat
  | (.string bytes, d) => bytes.length + uptoBulk d + 1
  | (_, d) => uptoBulk d + 1
 end
def uptoSmall : (H : Type) → List (DataW H) → Bool := fun _ ds => decide (uptoBulkAll ds ≤ 1048576)
def OpenSpec.upto (s : _root_.Go.ChangeSpec) : _root_.Go.OpenSpec := { _root_.Go.OpenSpec.ofChange s with cond := some uptoSmall }

/-- 'inkhornlaw19.CoreNone', WHERE WHAT IT READS IS OF BULK AT MOST 1048576: true; the input reads as it did. -/
def coreNoneUptoRow : OpenClaim := { program := "ythanghgfakibnaa", sum := "4736923b5ad3c4b1df7a9ac2fe654fa083d9e2de9f97f91e3ce0c79d038944ff", func := "inkhorn/inkhornlaw19.CoreNone", spec := "coreNone", inPlace := ["internal/bytealg.IndexByteString", "internal/bytealg.IndexString", "maps.clone"], unfollowed := true, recurses := true, named := ["internal/bytealg.MaxLen"], apart := false, narrowed := true }
def CoreNoneUptoSaid : Prop := coreNoneUptoRow.holds Try.pinned (OpenSpec.upto coreNoneSpec)

/-- 'inkhornlaw19.CoreUndo', WHERE WHAT IT READS IS OF BULK AT MOST 1048576: true; the input reads as it did. -/
def coreUndoUptoRow : OpenClaim := { program := "ythanghgfakibnaa", sum := "4736923b5ad3c4b1df7a9ac2fe654fa083d9e2de9f97f91e3ce0c79d038944ff", func := "inkhorn/inkhornlaw19.CoreUndo", spec := "coreUndo", inPlace := ["internal/bytealg.IndexByteString", "internal/bytealg.IndexString", "maps.clone"], unfollowed := true, recurses := true, named := ["internal/bytealg.MaxLen"], apart := false, narrowed := true }
def CoreUndoUptoSaid : Prop := coreUndoUptoRow.holds Try.pinned (OpenSpec.upto coreUndoSpec)

/-- 'inkhornlaw19.CoreAbort', WHERE WHAT IT READS IS OF BULK AT MOST 1048576: true; the input reads as it did. -/
def coreAbortUptoRow : OpenClaim := { program := "ythanghgfakibnaa", sum := "4736923b5ad3c4b1df7a9ac2fe654fa083d9e2de9f97f91e3ce0c79d038944ff", func := "inkhorn/inkhornlaw19.CoreAbort", spec := "coreAbort", inPlace := ["internal/bytealg.IndexByteString", "internal/bytealg.IndexString", "maps.clone"], unfollowed := true, recurses := true, named := ["internal/bytealg.MaxLen"], apart := false, narrowed := true }
def CoreAbortUptoSaid : Prop := coreAbortUptoRow.holds Try.pinned (OpenSpec.upto coreAbortSpec)

/-- 'inkhornlaw19.CorePlays', WHERE WHAT IT READS IS OF BULK AT MOST 1048576: true; the input reads as it did. -/
def corePlaysUptoRow : OpenClaim := { program := "ythanghgfakibnaa", sum := "4736923b5ad3c4b1df7a9ac2fe654fa083d9e2de9f97f91e3ce0c79d038944ff", func := "inkhorn/inkhornlaw19.CorePlays", spec := "corePlays", inPlace := ["internal/bytealg.IndexByteString", "internal/bytealg.IndexString", "maps.clone"], unfollowed := true, recurses := true, named := ["internal/bytealg.MaxLen"], apart := false, narrowed := true }
def CorePlaysUptoSaid : Prop := corePlaysUptoRow.holds Try.pinned (OpenSpec.upto corePlaysSpec)

end Rows
end Go.Proofs.Ythanghgfakibnaa
