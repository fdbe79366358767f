/-
  No cell of these rows narrows 'for every input' (looked for: loops, veiled, ifaces, maps, wideKeys, modest, calm, conditions, laid).
  DERIVED. THE GIVEN ROWS OF THIS SEAT. 6 by the template 'for every input the law returns true; each argument reads behind the call as it read before'; 0 by the template 'total and deterministic' (their statements: YtdgahppgpldnpaaTotals.lean).
  GIVEN WITH THE SEED: the statements are not yours to turn. If you find one false, say at which input.
  Laid BY PROGRAM, IN A SANDBOX (cutbox-rows.mjs): the forced cells as the released guide's own fill.sh prints them over the translation 10a4c8d136376c17… (all of the seat's roots in one cut). By AI agents, Wed Nov 11 2026. No macro, syntax, notation, axiom, sorry.
-/
import Derived.Test.YtdgahppgpldnpaaChecked
import GoSem.Claim
import GoSem.ClaimJoined
import GoSem.ClaimMapViews
import Derived.JoinedTies
import Derived.KernelRfl
namespace Go.Proofs.Ytdgahppgpldnpaa
/- THE CELL 'sum', in the pinned program and in every row, IS THE sha256 OF THE DUMP (.gsa) THAT YtdgahppgpldnpaaProg.lean LOADS. Nothing in Lean hashes anything: it is a label: what it is worth is what the hold of that sum in a sandbox is worth. -/
noncomputable def Try.pinned : Pinned := { name := "ytdgahppgpldnpaa", sum := "10a4c8d136376c178556b41fc020b9422ebf1bb3fb72d25766fbfe0f9d754ff8", checked := Try.checked }
namespace Rows
def none {H : Type} : Left H := { results := [], args := [] }

/-- 'inkhornlaw11.TemplatesTell': WHATEVER THE INPUT: true; the input reads as it did. -/
def templatesTellSpec : ChangeSpec := { name := "templatesTell", fn := fun _ => fun
  | [d1, d2, d3] => { results := [.lit (.bool true)], args := [d1, d2, d3] }
  | _ => none }
def templatesTellRow : OpenClaim := { program := "ytdgahppgpldnpaa", sum := "10a4c8d136376c178556b41fc020b9422ebf1bb3fb72d25766fbfe0f9d754ff8", func := "inkhorn/inkhornlaw11.TemplatesTell", spec := "templatesTell", inPlace := ["internal/bytealg.IndexByteString", "internal/bytealg.IndexString", "internal/abi.NoEscape"], unfollowed := true, recurses := true, named := ["internal/bytealg.MaxLen"], apart := false }
def TemplatesTellSaid : Prop := templatesTellRow.holds Try.pinned (OpenSpec.ofChange templatesTellSpec)

/-- ITS FALSE NEIGHBOUR: 'it returns false'. Refute it at one input. -/
def templatesTellWrong : ChangeSpec := { name := "templatesTell", fn := fun _ => fun
  | [d1, d2, d3] => { results := [.lit (.bool false)], args := [d1, d2, d3] }
  | _ => none }
def TemplatesTellWrongFalsely : Prop := templatesTellRow.holds Try.pinned (OpenSpec.ofChange templatesTellWrong)

/-- 'inkhornlaw11.TemplatesNone': WHATEVER THE INPUT: true; the input reads as it did. -/
def templatesNoneSpec : ChangeSpec := { name := "templatesNone", fn := fun _ => fun
  | [d1, d2] => { results := [.lit (.bool true)], args := [d1, d2] }
  | _ => none }
def templatesNoneRow : OpenClaim := { program := "ytdgahppgpldnpaa", sum := "10a4c8d136376c178556b41fc020b9422ebf1bb3fb72d25766fbfe0f9d754ff8", func := "inkhorn/inkhornlaw11.TemplatesNone", spec := "templatesNone", inPlace := ["internal/bytealg.IndexByteString", "internal/bytealg.IndexString", "internal/abi.NoEscape"], unfollowed := true, recurses := true, named := ["internal/bytealg.MaxLen"], apart := false }
def TemplatesNoneSaid : Prop := templatesNoneRow.holds Try.pinned (OpenSpec.ofChange templatesNoneSpec)

/-- ITS FALSE NEIGHBOUR: 'it returns false'. Refute it at one input. -/
def templatesNoneWrong : ChangeSpec := { name := "templatesNone", fn := fun _ => fun
  | [d1, d2] => { results := [.lit (.bool false)], args := [d1, d2] }
  | _ => none }
def TemplatesNoneWrongFalsely : Prop := templatesNoneRow.holds Try.pinned (OpenSpec.ofChange templatesNoneWrong)

/-- 'inkhornlaw11.TemplatesJoin': WHATEVER THE INPUT: true; the input reads as it did. -/
def templatesJoinSpec : ChangeSpec := { name := "templatesJoin", fn := fun _ => fun
  | [d1, d2, d3] => { results := [.lit (.bool true)], args := [d1, d2, d3] }
  | _ => none }
def templatesJoinRow : OpenClaim := { program := "ytdgahppgpldnpaa", sum := "10a4c8d136376c178556b41fc020b9422ebf1bb3fb72d25766fbfe0f9d754ff8", func := "inkhorn/inkhornlaw11.TemplatesJoin", spec := "templatesJoin", inPlace := ["internal/bytealg.IndexByteString", "internal/bytealg.IndexString", "internal/abi.NoEscape"], unfollowed := true, recurses := true, named := ["internal/bytealg.MaxLen"], apart := false }
def TemplatesJoinSaid : Prop := templatesJoinRow.holds Try.pinned (OpenSpec.ofChange templatesJoinSpec)

/-- ITS FALSE NEIGHBOUR: 'it returns false'. Refute it at one input. -/
def templatesJoinWrong : ChangeSpec := { name := "templatesJoin", fn := fun _ => fun
  | [d1, d2, d3] => { results := [.lit (.bool false)], args := [d1, d2, d3] }
  | _ => none }
def TemplatesJoinWrongFalsely : Prop := templatesJoinRow.holds Try.pinned (OpenSpec.ofChange templatesJoinWrong)

/-- 'inkhornlaw11.TemplatesItself': WHATEVER THE INPUT: true; the input reads as it did. -/
def templatesItselfSpec : ChangeSpec := { name := "templatesItself", fn := fun _ => fun
  | [d1, d2, d3] => { results := [.lit (.bool true)], args := [d1, d2, d3] }
  | _ => none }
def templatesItselfRow : OpenClaim := { program := "ytdgahppgpldnpaa", sum := "10a4c8d136376c178556b41fc020b9422ebf1bb3fb72d25766fbfe0f9d754ff8", func := "inkhorn/inkhornlaw11.TemplatesItself", spec := "templatesItself", inPlace := ["internal/bytealg.IndexByteString", "internal/bytealg.IndexString", "internal/abi.NoEscape"], unfollowed := true, recurses := true, named := ["internal/bytealg.MaxLen"], apart := false }
def TemplatesItselfSaid : Prop := templatesItselfRow.holds Try.pinned (OpenSpec.ofChange templatesItselfSpec)

/-- ITS FALSE NEIGHBOUR: 'it returns false'. Refute it at one input. -/
def templatesItselfWrong : ChangeSpec := { name := "templatesItself", fn := fun _ => fun
  | [d1, d2, d3] => { results := [.lit (.bool false)], args := [d1, d2, d3] }
  | _ => none }
def TemplatesItselfWrongFalsely : Prop := templatesItselfRow.holds Try.pinned (OpenSpec.ofChange templatesItselfWrong)

/-- 'inkhornlaw11.TemplatesGroups': WHATEVER THE INPUT: true; the input reads as it did. -/
def templatesGroupsSpec : ChangeSpec := { name := "templatesGroups", fn := fun _ => fun
  | [d1, d2, d3] => { results := [.lit (.bool true)], args := [d1, d2, d3] }
  | _ => none }
def templatesGroupsRow : OpenClaim := { program := "ytdgahppgpldnpaa", sum := "10a4c8d136376c178556b41fc020b9422ebf1bb3fb72d25766fbfe0f9d754ff8", func := "inkhorn/inkhornlaw11.TemplatesGroups", spec := "templatesGroups", inPlace := ["internal/bytealg.IndexByteString", "internal/bytealg.IndexString", "internal/abi.NoEscape"], unfollowed := true, recurses := true, named := ["internal/bytealg.MaxLen"], apart := false }
def TemplatesGroupsSaid : Prop := templatesGroupsRow.holds Try.pinned (OpenSpec.ofChange templatesGroupsSpec)

/-- ITS FALSE NEIGHBOUR: 'it returns false'. Refute it at one input. -/
def templatesGroupsWrong : ChangeSpec := { name := "templatesGroups", fn := fun _ => fun
  | [d1, d2, d3] => { results := [.lit (.bool false)], args := [d1, d2, d3] }
  | _ => none }
def TemplatesGroupsWrongFalsely : Prop := templatesGroupsRow.holds Try.pinned (OpenSpec.ofChange templatesGroupsWrong)

/-- 'inkhornlaw11.TemplatesCut': WHATEVER THE INPUT: true; the input reads as it did. -/
def templatesCutSpec : ChangeSpec := { name := "templatesCut", fn := fun _ => fun
  | [d1, d2] => { results := [.lit (.bool true)], args := [d1, d2] }
  | _ => none }
def templatesCutRow : OpenClaim := { program := "ytdgahppgpldnpaa", sum := "10a4c8d136376c178556b41fc020b9422ebf1bb3fb72d25766fbfe0f9d754ff8", func := "inkhorn/inkhornlaw11.TemplatesCut", spec := "templatesCut", inPlace := ["internal/bytealg.IndexByteString", "internal/bytealg.IndexString", "internal/abi.NoEscape"], unfollowed := true, recurses := true, named := ["internal/bytealg.MaxLen"], apart := false }
def TemplatesCutSaid : Prop := templatesCutRow.holds Try.pinned (OpenSpec.ofChange templatesCutSpec)

/-- ITS FALSE NEIGHBOUR: 'it returns false'. Refute it at one input. -/
def templatesCutWrong : ChangeSpec := { name := "templatesCut", fn := fun _ => fun
  | [d1, d2] => { results := [.lit (.bool false)], args := [d1, d2] }
  | _ => none }
def TemplatesCutWrongFalsely : Prop := templatesCutRow.holds Try.pinned (OpenSpec.ofChange templatesCutWrong)

/- THE SECOND FORM. 'bulk': how many values and letters a reading holds, each counted each time it is reached (what is shared counts as often as it is met; a slice's spare places count too). A statement '..UptoSaid' is the law's where the arguments, and the package variables that the reading takes, are together of bulk at most 1048576: NARROWER than '..Said'. Prove '..Said' where nothing that the law and all that it calls make is longer than what came in: it says more and counts as full. Else prove '..UptoSaid'. A law counts once. -/
mutual
def uptoBulk {H : Type} : DataW H → Nat
  | .lit (.string bytes) => bytes.length + 1
  | .lit _ => 1
  | .nil => 1
  | .ptr d => uptoBulk d + 1
  | .slice elems spare => uptoBulkAll elems + uptoBulkAll spare + 1
  | .agg parts => uptoBulkAll parts + 1
  | .iface _ d => uptoBulk d + 1
  | .map entries => uptoBulkEntries entries + 1
  | .held _ => 1
def uptoBulkAll {H : Type} : List (DataW H) → Nat
  | [] => 0
  | d :: r => uptoBulk d + uptoBulkAll r
def uptoBulkEntries {H : Type} : List (Lit × DataW H) → Nat
  | [] => 0
  | x :: r => uptoBulkEntry x + uptoBulkEntries r
def uptoBulkEntry {H : Type} : Lit × DataW H → Nat
  | (.string bytes, d) => bytes.length + uptoBulk d + 1
  | (_, d) => uptoBulk d + 1
 end
def uptoSmall : (H : Type) → List (DataW H) → Bool := fun _ ds => decide (uptoBulkAll ds ≤ 1048576)
def OpenSpec.upto (s : _root_.Go.ChangeSpec) : _root_.Go.OpenSpec := { _root_.Go.OpenSpec.ofChange s with cond := some uptoSmall }

/-- 'inkhornlaw11.TemplatesTell', WHERE WHAT IT READS IS OF BULK AT MOST 1048576: true; the input reads as it did. -/
def templatesTellUptoRow : OpenClaim := { program := "ytdgahppgpldnpaa", sum := "10a4c8d136376c178556b41fc020b9422ebf1bb3fb72d25766fbfe0f9d754ff8", func := "inkhorn/inkhornlaw11.TemplatesTell", spec := "templatesTell", inPlace := ["internal/bytealg.IndexByteString", "internal/bytealg.IndexString", "internal/abi.NoEscape"], unfollowed := true, recurses := true, named := ["internal/bytealg.MaxLen"], apart := false, narrowed := true }
def TemplatesTellUptoSaid : Prop := templatesTellUptoRow.holds Try.pinned (OpenSpec.upto templatesTellSpec)

/-- 'inkhornlaw11.TemplatesNone', WHERE WHAT IT READS IS OF BULK AT MOST 1048576: true; the input reads as it did. -/
def templatesNoneUptoRow : OpenClaim := { program := "ytdgahppgpldnpaa", sum := "10a4c8d136376c178556b41fc020b9422ebf1bb3fb72d25766fbfe0f9d754ff8", func := "inkhorn/inkhornlaw11.TemplatesNone", spec := "templatesNone", inPlace := ["internal/bytealg.IndexByteString", "internal/bytealg.IndexString", "internal/abi.NoEscape"], unfollowed := true, recurses := true, named := ["internal/bytealg.MaxLen"], apart := false, narrowed := true }
def TemplatesNoneUptoSaid : Prop := templatesNoneUptoRow.holds Try.pinned (OpenSpec.upto templatesNoneSpec)

/-- 'inkhornlaw11.TemplatesJoin', WHERE WHAT IT READS IS OF BULK AT MOST 1048576: true; the input reads as it did. -/
def templatesJoinUptoRow : OpenClaim := { program := "ytdgahppgpldnpaa", sum := "10a4c8d136376c178556b41fc020b9422ebf1bb3fb72d25766fbfe0f9d754ff8", func := "inkhorn/inkhornlaw11.TemplatesJoin", spec := "templatesJoin", inPlace := ["internal/bytealg.IndexByteString", "internal/bytealg.IndexString", "internal/abi.NoEscape"], unfollowed := true, recurses := true, named := ["internal/bytealg.MaxLen"], apart := false, narrowed := true }
def TemplatesJoinUptoSaid : Prop := templatesJoinUptoRow.holds Try.pinned (OpenSpec.upto templatesJoinSpec)

/-- 'inkhornlaw11.TemplatesItself', WHERE WHAT IT READS IS OF BULK AT MOST 1048576: true; the input reads as it did. -/
def templatesItselfUptoRow : OpenClaim := { program := "ytdgahppgpldnpaa", sum := "10a4c8d136376c178556b41fc020b9422ebf1bb3fb72d25766fbfe0f9d754ff8", func := "inkhorn/inkhornlaw11.TemplatesItself", spec := "templatesItself", inPlace := ["internal/bytealg.IndexByteString", "internal/bytealg.IndexString", "internal/abi.NoEscape"], unfollowed := true, recurses := true, named := ["internal/bytealg.MaxLen"], apart := false, narrowed := true }
def TemplatesItselfUptoSaid : Prop := templatesItselfUptoRow.holds Try.pinned (OpenSpec.upto templatesItselfSpec)

/-- 'inkhornlaw11.TemplatesGroups', WHERE WHAT IT READS IS OF BULK AT MOST 1048576: true; the input reads as it did. -/
def templatesGroupsUptoRow : OpenClaim := { program := "ytdgahppgpldnpaa", sum := "10a4c8d136376c178556b41fc020b9422ebf1bb3fb72d25766fbfe0f9d754ff8", func := "inkhorn/inkhornlaw11.TemplatesGroups", spec := "templatesGroups", inPlace := ["internal/bytealg.IndexByteString", "internal/bytealg.IndexString", "internal/abi.NoEscape"], unfollowed := true, recurses := true, named := ["internal/bytealg.MaxLen"], apart := false, narrowed := true }
def TemplatesGroupsUptoSaid : Prop := templatesGroupsUptoRow.holds Try.pinned (OpenSpec.upto templatesGroupsSpec)

/-- 'inkhornlaw11.TemplatesCut', WHERE WHAT IT READS IS OF BULK AT MOST 1048576: true; the input reads as it did. -/
def templatesCutUptoRow : OpenClaim := { program := "ytdgahppgpldnpaa", sum := "10a4c8d136376c178556b41fc020b9422ebf1bb3fb72d25766fbfe0f9d754ff8", func := "inkhorn/inkhornlaw11.TemplatesCut", spec := "templatesCut", inPlace := ["internal/bytealg.IndexByteString", "internal/bytealg.IndexString", "internal/abi.NoEscape"], unfollowed := true, recurses := true, named := ["internal/bytealg.MaxLen"], apart := false, narrowed := true }
def TemplatesCutUptoSaid : Prop := templatesCutUptoRow.holds Try.pinned (OpenSpec.upto templatesCutSpec)

end Rows
end Go.Proofs.Ytdgahppgpldnpaa
