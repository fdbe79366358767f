/-
  NARROWER THAN 'FOR EVERY INPUT', by the rows' own cells (each row's printed sentence says how): BreParse: laid · BreNone: laid · BreNodes: laid · BreItself: laid · BreRow: laid · BreTimes: laid · BreLimits: laid.
  DERIVED. THE GIVEN ROWS OF THIS SEAT. 7 by the template 'for every input the law returns true; each argument reads behind the call as it read before'; 0 by the template 'total and deterministic' (their statements: YtpignlkojlbhkaaDoorTotals.lean).
  GIVEN WITH THE SEED: the statements are not yours to turn. If you find one false, say at which input.
  Laid BY PROGRAM, IN A SANDBOX (cutbox-rows.mjs): the forced cells as the released guide's own fill.sh prints them over the translation 98731e34637443e3… (all of the seat's roots in one cut). By AI agents, Wed Nov 11 2026. No macro, syntax, notation, axiom, sorry.
-/
import Derived.Test.YtpignlkojlbhkaaDoorChecked
import GoSem.PinnedTables
import GoSem.Claim
import GoSem.ClaimJoined
import GoSem.ClaimMapViews
import Derived.JoinedTies
import Derived.KernelRfl
namespace Go.Proofs.YtpignlkojlbhkaaDoor
/- THE CELL 'sum', in the pinned program and in every row, IS THE sha256 OF THE DUMP (.gsa) THAT YtpignlkojlbhkaaDoorProg.lean LOADS. Nothing in Lean hashes anything: it is a label: what it is worth is what the hold of that sum in a sandbox is worth. -/
noncomputable def Tryd.pinned : Pinned := { name := "ytpignlkojlbhkaadoor", sum := "98731e34637443e31f6d558fd6eaa2d0ef28654e78645b9882a2e21907f636cb", checked := Tryd.checked }
namespace Rows
def none {H : Type} : Left H := { results := [], args := [] }

/- WHAT THE LISTED PACKAGE-LEVEL VARIABLES READ AS WHEN THE CALL BEGINS. Each datum BY PROGRAM (the guide's laid-datum.mjs) off the statement by which the dump's own 'gosem.cut.vars' lays the variable. In a bare row this is a premise. The card (YtpignlkojlbhkaaDoorCards.lean) ties it to the program's text. -/
def laid_unicode_utf8_acceptRanges {H : Type} : DataW H := .agg [.agg [.lit (.int .u8 128), .lit (.int .u8 191)], .agg [.lit (.int .u8 160), .lit (.int .u8 191)], .agg [.lit (.int .u8 128), .lit (.int .u8 159)], .agg [.lit (.int .u8 144), .lit (.int .u8 191)], .agg [.lit (.int .u8 128), .lit (.int .u8 143)], .agg [.lit (.int .u8 0), .lit (.int .u8 0)], .agg [.lit (.int .u8 0), .lit (.int .u8 0)], .agg [.lit (.int .u8 0), .lit (.int .u8 0)], .agg [.lit (.int .u8 0), .lit (.int .u8 0)], .agg [.lit (.int .u8 0), .lit (.int .u8 0)], .agg [.lit (.int .u8 0), .lit (.int .u8 0)], .agg [.lit (.int .u8 0), .lit (.int .u8 0)], .agg [.lit (.int .u8 0), .lit (.int .u8 0)], .agg [.lit (.int .u8 0), .lit (.int .u8 0)], .agg [.lit (.int .u8 0), .lit (.int .u8 0)], .agg [.lit (.int .u8 0), .lit (.int .u8 0)]]
/-- One of Go's own tables, pinned by name: the form's constant. -/
def laid_unicode_utf8_first : DataW Unit := Go.Pinned.utf8First

/-- 'inkhornlaw09.BreParse': WHATEVER THE INPUT: true; the input reads as it did. -/
def breParseSpec : ChangeSpec := { name := "breParse", fn := fun _ => fun
  | [d] => { results := [.lit (.bool true)], args := [d] }
  | _ => none }
def breParseRow : OpenClaim := { program := "ytpignlkojlbhkaadoor", sum := "98731e34637443e31f6d558fd6eaa2d0ef28654e78645b9882a2e21907f636cb", func := "inkhorn/inkhornlaw09.BreParse", spec := "breParse", inPlace := ["internal/bytealg.IndexByteString", "internal/bytealg.IndexString"], unfollowed := true, recurses := true, named := ["internal/bytealg.MaxLen", "unicode/utf8.first", "unicode/utf8.acceptRanges"], apart := false, laid := [("unicode/utf8.acceptRanges", laid_unicode_utf8_acceptRanges), ("unicode/utf8.first", laid_unicode_utf8_first)] }
def BreParseSaid : Prop := breParseRow.holds Tryd.pinned (OpenSpec.ofChange breParseSpec)

/-- ITS FALSE NEIGHBOUR: 'it returns false'. Refute it at one input. -/
def breParseWrong : ChangeSpec := { name := "breParse", fn := fun _ => fun
  | [d] => { results := [.lit (.bool false)], args := [d] }
  | _ => none }
def BreParseWrongFalsely : Prop := breParseRow.holds Tryd.pinned (OpenSpec.ofChange breParseWrong)

/-- 'inkhornlaw09.BreNone': WHATEVER THE INPUT: true; the input reads as it did. -/
def breNoneSpec : ChangeSpec := { name := "breNone", fn := fun _ => fun
  | [d] => { results := [.lit (.bool true)], args := [d] }
  | _ => none }
def breNoneRow : OpenClaim := { program := "ytpignlkojlbhkaadoor", sum := "98731e34637443e31f6d558fd6eaa2d0ef28654e78645b9882a2e21907f636cb", func := "inkhorn/inkhornlaw09.BreNone", spec := "breNone", inPlace := ["internal/bytealg.IndexByteString", "internal/bytealg.IndexString"], unfollowed := true, recurses := true, named := ["internal/bytealg.MaxLen", "unicode/utf8.first", "unicode/utf8.acceptRanges"], apart := false, laid := [("unicode/utf8.acceptRanges", laid_unicode_utf8_acceptRanges), ("unicode/utf8.first", laid_unicode_utf8_first)] }
def BreNoneSaid : Prop := breNoneRow.holds Tryd.pinned (OpenSpec.ofChange breNoneSpec)

/-- ITS FALSE NEIGHBOUR: 'it returns false'. Refute it at one input. -/
def breNoneWrong : ChangeSpec := { name := "breNone", fn := fun _ => fun
  | [d] => { results := [.lit (.bool false)], args := [d] }
  | _ => none }
def BreNoneWrongFalsely : Prop := breNoneRow.holds Tryd.pinned (OpenSpec.ofChange breNoneWrong)

/-- 'inkhornlaw09.BreNodes': WHATEVER THE INPUT: true; the input reads as it did. -/
def breNodesSpec : ChangeSpec := { name := "breNodes", fn := fun _ => fun
  | [d] => { results := [.lit (.bool true)], args := [d] }
  | _ => none }
def breNodesRow : OpenClaim := { program := "ytpignlkojlbhkaadoor", sum := "98731e34637443e31f6d558fd6eaa2d0ef28654e78645b9882a2e21907f636cb", func := "inkhorn/inkhornlaw09.BreNodes", spec := "breNodes", inPlace := ["internal/bytealg.IndexByteString", "internal/bytealg.IndexString"], unfollowed := true, recurses := true, named := ["internal/bytealg.MaxLen", "unicode/utf8.first", "unicode/utf8.acceptRanges"], apart := false, laid := [("unicode/utf8.acceptRanges", laid_unicode_utf8_acceptRanges), ("unicode/utf8.first", laid_unicode_utf8_first)] }
def BreNodesSaid : Prop := breNodesRow.holds Tryd.pinned (OpenSpec.ofChange breNodesSpec)

/-- ITS FALSE NEIGHBOUR: 'it returns false'. Refute it at one input. -/
def breNodesWrong : ChangeSpec := { name := "breNodes", fn := fun _ => fun
  | [d] => { results := [.lit (.bool false)], args := [d] }
  | _ => none }
def BreNodesWrongFalsely : Prop := breNodesRow.holds Tryd.pinned (OpenSpec.ofChange breNodesWrong)

/-- 'inkhornlaw09.BreItself': WHATEVER THE INPUT: true; the input reads as it did. -/
def breItselfSpec : ChangeSpec := { name := "breItself", fn := fun _ => fun
  | [d] => { results := [.lit (.bool true)], args := [d] }
  | _ => none }
def breItselfRow : OpenClaim := { program := "ytpignlkojlbhkaadoor", sum := "98731e34637443e31f6d558fd6eaa2d0ef28654e78645b9882a2e21907f636cb", func := "inkhorn/inkhornlaw09.BreItself", spec := "breItself", inPlace := ["internal/bytealg.IndexByteString", "internal/bytealg.IndexString"], unfollowed := true, recurses := true, named := ["internal/bytealg.MaxLen", "unicode/utf8.first", "unicode/utf8.acceptRanges"], apart := false, laid := [("unicode/utf8.acceptRanges", laid_unicode_utf8_acceptRanges), ("unicode/utf8.first", laid_unicode_utf8_first)] }
def BreItselfSaid : Prop := breItselfRow.holds Tryd.pinned (OpenSpec.ofChange breItselfSpec)

/-- ITS FALSE NEIGHBOUR: 'it returns false'. Refute it at one input. -/
def breItselfWrong : ChangeSpec := { name := "breItself", fn := fun _ => fun
  | [d] => { results := [.lit (.bool false)], args := [d] }
  | _ => none }
def BreItselfWrongFalsely : Prop := breItselfRow.holds Tryd.pinned (OpenSpec.ofChange breItselfWrong)

/-- 'inkhornlaw09.BreRow': WHATEVER THE INPUT: true; the input reads as it did. -/
def breRowSpec : ChangeSpec := { name := "breRow", fn := fun _ => fun
  | [d1, d2] => { results := [.lit (.bool true)], args := [d1, d2] }
  | _ => none }
def breRowRow : OpenClaim := { program := "ytpignlkojlbhkaadoor", sum := "98731e34637443e31f6d558fd6eaa2d0ef28654e78645b9882a2e21907f636cb", func := "inkhorn/inkhornlaw09.BreRow", spec := "breRow", inPlace := ["internal/bytealg.IndexByteString", "internal/bytealg.IndexString"], unfollowed := true, recurses := true, named := ["internal/bytealg.MaxLen", "unicode/utf8.first", "unicode/utf8.acceptRanges"], apart := false, laid := [("unicode/utf8.acceptRanges", laid_unicode_utf8_acceptRanges), ("unicode/utf8.first", laid_unicode_utf8_first)] }
def BreRowSaid : Prop := breRowRow.holds Tryd.pinned (OpenSpec.ofChange breRowSpec)

/-- ITS FALSE NEIGHBOUR: 'it returns false'. Refute it at one input. -/
def breRowWrong : ChangeSpec := { name := "breRow", fn := fun _ => fun
  | [d1, d2] => { results := [.lit (.bool false)], args := [d1, d2] }
  | _ => none }
def BreRowWrongFalsely : Prop := breRowRow.holds Tryd.pinned (OpenSpec.ofChange breRowWrong)

/-- 'inkhornlaw09.BreTimes': WHATEVER THE INPUT: true; the input reads as it did. -/
def breTimesSpec : ChangeSpec := { name := "breTimes", fn := fun _ => fun
  | [d1, d2, d3] => { results := [.lit (.bool true)], args := [d1, d2, d3] }
  | _ => none }
def breTimesRow : OpenClaim := { program := "ytpignlkojlbhkaadoor", sum := "98731e34637443e31f6d558fd6eaa2d0ef28654e78645b9882a2e21907f636cb", func := "inkhorn/inkhornlaw09.BreTimes", spec := "breTimes", inPlace := ["internal/bytealg.IndexByteString", "internal/bytealg.IndexString"], unfollowed := true, recurses := true, named := ["internal/bytealg.MaxLen", "unicode/utf8.first", "unicode/utf8.acceptRanges"], apart := false, laid := [("unicode/utf8.acceptRanges", laid_unicode_utf8_acceptRanges), ("unicode/utf8.first", laid_unicode_utf8_first)] }
def BreTimesSaid : Prop := breTimesRow.holds Tryd.pinned (OpenSpec.ofChange breTimesSpec)

/-- ITS FALSE NEIGHBOUR: 'it returns false'. Refute it at one input. -/
def breTimesWrong : ChangeSpec := { name := "breTimes", fn := fun _ => fun
  | [d1, d2, d3] => { results := [.lit (.bool false)], args := [d1, d2, d3] }
  | _ => none }
def BreTimesWrongFalsely : Prop := breTimesRow.holds Tryd.pinned (OpenSpec.ofChange breTimesWrong)

/-- 'inkhornlaw09.BreLimits': WHATEVER THE INPUT: true; the input reads as it did. -/
def breLimitsSpec : ChangeSpec := { name := "breLimits", fn := fun _ => fun
  | [d1, d2] => { results := [.lit (.bool true)], args := [d1, d2] }
  | _ => none }
def breLimitsRow : OpenClaim := { program := "ytpignlkojlbhkaadoor", sum := "98731e34637443e31f6d558fd6eaa2d0ef28654e78645b9882a2e21907f636cb", func := "inkhorn/inkhornlaw09.BreLimits", spec := "breLimits", inPlace := ["internal/bytealg.IndexByteString", "internal/bytealg.IndexString"], unfollowed := true, recurses := true, named := ["internal/bytealg.MaxLen", "unicode/utf8.first", "unicode/utf8.acceptRanges"], apart := false, laid := [("unicode/utf8.acceptRanges", laid_unicode_utf8_acceptRanges), ("unicode/utf8.first", laid_unicode_utf8_first)] }
def BreLimitsSaid : Prop := breLimitsRow.holds Tryd.pinned (OpenSpec.ofChange breLimitsSpec)

/-- ITS FALSE NEIGHBOUR: 'it returns false'. Refute it at one input. -/
def breLimitsWrong : ChangeSpec := { name := "breLimits", fn := fun _ => fun
  | [d1, d2] => { results := [.lit (.bool false)], args := [d1, d2] }
  | _ => none }
def BreLimitsWrongFalsely : Prop := breLimitsRow.holds Tryd.pinned (OpenSpec.ofChange breLimitsWrong)

/- THE SECOND FORM. 'bulk': how many values and letters a reading holds, each counted each time it is reached (what is shared counts as often as it is met; a slice's spare places count too). A statement '..UptoSaid' is the law's where the arguments, and the package variables that the reading takes, are together of bulk at most 1048576: NARROWER than '..Said'. Prove '..Said' where nothing that the law and all that it calls make is longer than what came in: it says more and counts as full. Else prove '..UptoSaid'. A law counts once. -/
mutual
def uptoBulk {H : Type} : DataW H → Nat
  | .lit (.string bytes) => bytes.length + 1
  | .lit _ => 1
  | .nil => 1
  | .ptr d => uptoBulk d + 1
  | .slice elems spare => uptoBulkAll elems + uptoBulkAll spare + 1
  | .agg parts => uptoBulkAll parts + 1
  | .iface _ d => uptoBulk d + 1
  | .map entries => uptoBulkEntries entries + 1
  | .held _ => 1
def uptoBulkAll {H : Type} : List (DataW H) → Nat
  | [] => 0
  | d :: r => uptoBulk d + uptoBulkAll r
def uptoBulkEntries {H : Type} : List (Lit × DataW H) → Nat
  | [] => 0
  | x :: r => uptoBulkEntry x + uptoBulkEntries r
def uptoBulkEntry {H : Type} : Lit × DataW H → Nat
  | (.string bytes, d) => bytes.length + uptoBulk d + 1
  | (_, d) => uptoBulk d + 1
 end
def uptoSmall : (H : Type) → List (DataW H) → Bool := fun _ ds => decide (uptoBulkAll ds ≤ 1048576)
def OpenSpec.upto (s : _root_.Go.ChangeSpec) : _root_.Go.OpenSpec := { _root_.Go.OpenSpec.ofChange s with cond := some uptoSmall }

/-- 'inkhornlaw09.BreParse', WHERE WHAT IT READS IS OF BULK AT MOST 1048576: true; the input reads as it did. -/
def breParseUptoRow : OpenClaim := { program := "ytpignlkojlbhkaadoor", sum := "98731e34637443e31f6d558fd6eaa2d0ef28654e78645b9882a2e21907f636cb", func := "inkhorn/inkhornlaw09.BreParse", spec := "breParse", inPlace := ["internal/bytealg.IndexByteString", "internal/bytealg.IndexString"], unfollowed := true, recurses := true, named := ["internal/bytealg.MaxLen", "unicode/utf8.first", "unicode/utf8.acceptRanges"], apart := false, laid := [("unicode/utf8.acceptRanges", laid_unicode_utf8_acceptRanges), ("unicode/utf8.first", laid_unicode_utf8_first)], narrowed := true }
def BreParseUptoSaid : Prop := breParseUptoRow.holds Tryd.pinned (OpenSpec.upto breParseSpec)

/-- 'inkhornlaw09.BreNone', WHERE WHAT IT READS IS OF BULK AT MOST 1048576: true; the input reads as it did. -/
def breNoneUptoRow : OpenClaim := { program := "ytpignlkojlbhkaadoor", sum := "98731e34637443e31f6d558fd6eaa2d0ef28654e78645b9882a2e21907f636cb", func := "inkhorn/inkhornlaw09.BreNone", spec := "breNone", inPlace := ["internal/bytealg.IndexByteString", "internal/bytealg.IndexString"], unfollowed := true, recurses := true, named := ["internal/bytealg.MaxLen", "unicode/utf8.first", "unicode/utf8.acceptRanges"], apart := false, laid := [("unicode/utf8.acceptRanges", laid_unicode_utf8_acceptRanges), ("unicode/utf8.first", laid_unicode_utf8_first)], narrowed := true }
def BreNoneUptoSaid : Prop := breNoneUptoRow.holds Tryd.pinned (OpenSpec.upto breNoneSpec)

/-- 'inkhornlaw09.BreNodes', WHERE WHAT IT READS IS OF BULK AT MOST 1048576: true; the input reads as it did. -/
def breNodesUptoRow : OpenClaim := { program := "ytpignlkojlbhkaadoor", sum := "98731e34637443e31f6d558fd6eaa2d0ef28654e78645b9882a2e21907f636cb", func := "inkhorn/inkhornlaw09.BreNodes", spec := "breNodes", inPlace := ["internal/bytealg.IndexByteString", "internal/bytealg.IndexString"], unfollowed := true, recurses := true, named := ["internal/bytealg.MaxLen", "unicode/utf8.first", "unicode/utf8.acceptRanges"], apart := false, laid := [("unicode/utf8.acceptRanges", laid_unicode_utf8_acceptRanges), ("unicode/utf8.first", laid_unicode_utf8_first)], narrowed := true }
def BreNodesUptoSaid : Prop := breNodesUptoRow.holds Tryd.pinned (OpenSpec.upto breNodesSpec)

/-- 'inkhornlaw09.BreItself', WHERE WHAT IT READS IS OF BULK AT MOST 1048576: true; the input reads as it did. -/
def breItselfUptoRow : OpenClaim := { program := "ytpignlkojlbhkaadoor", sum := "98731e34637443e31f6d558fd6eaa2d0ef28654e78645b9882a2e21907f636cb", func := "inkhorn/inkhornlaw09.BreItself", spec := "breItself", inPlace := ["internal/bytealg.IndexByteString", "internal/bytealg.IndexString"], unfollowed := true, recurses := true, named := ["internal/bytealg.MaxLen", "unicode/utf8.first", "unicode/utf8.acceptRanges"], apart := false, laid := [("unicode/utf8.acceptRanges", laid_unicode_utf8_acceptRanges), ("unicode/utf8.first", laid_unicode_utf8_first)], narrowed := true }
def BreItselfUptoSaid : Prop := breItselfUptoRow.holds Tryd.pinned (OpenSpec.upto breItselfSpec)

/-- 'inkhornlaw09.BreRow', WHERE WHAT IT READS IS OF BULK AT MOST 1048576: true; the input reads as it did. -/
def breRowUptoRow : OpenClaim := { program := "ytpignlkojlbhkaadoor", sum := "98731e34637443e31f6d558fd6eaa2d0ef28654e78645b9882a2e21907f636cb", func := "inkhorn/inkhornlaw09.BreRow", spec := "breRow", inPlace := ["internal/bytealg.IndexByteString", "internal/bytealg.IndexString"], unfollowed := true, recurses := true, named := ["internal/bytealg.MaxLen", "unicode/utf8.first", "unicode/utf8.acceptRanges"], apart := false, laid := [("unicode/utf8.acceptRanges", laid_unicode_utf8_acceptRanges), ("unicode/utf8.first", laid_unicode_utf8_first)], narrowed := true }
def BreRowUptoSaid : Prop := breRowUptoRow.holds Tryd.pinned (OpenSpec.upto breRowSpec)

/-- 'inkhornlaw09.BreTimes', WHERE WHAT IT READS IS OF BULK AT MOST 1048576: true; the input reads as it did. -/
def breTimesUptoRow : OpenClaim := { program := "ytpignlkojlbhkaadoor", sum := "98731e34637443e31f6d558fd6eaa2d0ef28654e78645b9882a2e21907f636cb", func := "inkhorn/inkhornlaw09.BreTimes", spec := "breTimes", inPlace := ["internal/bytealg.IndexByteString", "internal/bytealg.IndexString"], unfollowed := true, recurses := true, named := ["internal/bytealg.MaxLen", "unicode/utf8.first", "unicode/utf8.acceptRanges"], apart := false, laid := [("unicode/utf8.acceptRanges", laid_unicode_utf8_acceptRanges), ("unicode/utf8.first", laid_unicode_utf8_first)], narrowed := true }
def BreTimesUptoSaid : Prop := breTimesUptoRow.holds Tryd.pinned (OpenSpec.upto breTimesSpec)

/-- 'inkhornlaw09.BreLimits', WHERE WHAT IT READS IS OF BULK AT MOST 1048576: true; the input reads as it did. -/
def breLimitsUptoRow : OpenClaim := { program := "ytpignlkojlbhkaadoor", sum := "98731e34637443e31f6d558fd6eaa2d0ef28654e78645b9882a2e21907f636cb", func := "inkhorn/inkhornlaw09.BreLimits", spec := "breLimits", inPlace := ["internal/bytealg.IndexByteString", "internal/bytealg.IndexString"], unfollowed := true, recurses := true, named := ["internal/bytealg.MaxLen", "unicode/utf8.first", "unicode/utf8.acceptRanges"], apart := false, laid := [("unicode/utf8.acceptRanges", laid_unicode_utf8_acceptRanges), ("unicode/utf8.first", laid_unicode_utf8_first)], narrowed := true }
def BreLimitsUptoSaid : Prop := breLimitsUptoRow.holds Tryd.pinned (OpenSpec.upto breLimitsSpec)

end Rows
end Go.Proofs.YtpignlkojlbhkaaDoor
