/-
  No cell of these rows narrows 'for every input' (looked for: loops, veiled, ifaces, maps, wideKeys, modest, calm, conditions, laid).
  DERIVED. THE GIVEN ROWS OF THIS SEAT. 7 by the template 'for every input the law returns true; each argument reads behind the call as it read before'; 0 by the template 'total and deterministic' (their statements: YtblcggmbaofflaaTotals.lean).
  GIVEN WITH THE SEED: the statements are not yours to turn. If you find one false, say at which input.
  Laid BY PROGRAM, IN A SANDBOX (cutbox-rows.mjs): the forced cells as the released guide's own fill.sh prints them over the translation 86c63bbed7f82f8a… (all of the seat's roots in one cut). By AI agents, Wed Nov 11 2026. No macro, syntax, notation, axiom, sorry.
-/
import Derived.Test.YtblcggmbaofflaaChecked
import GoSem.Claim
import GoSem.ClaimJoined
import GoSem.ClaimMapViews
import Derived.JoinedTies
import Derived.KernelRfl
namespace Go.Proofs.Ytblcggmbaofflaa
/- THE CELL 'sum', in the pinned program and in every row, IS THE sha256 OF THE DUMP (.gsa) THAT YtblcggmbaofflaaProg.lean LOADS. Nothing in Lean hashes anything: it is a label: what it is worth is what the hold of that sum in a sandbox is worth. -/
noncomputable def Try.pinned : Pinned := { name := "ytblcggmbaofflaa", sum := "86c63bbed7f82f8a1f2ce8b311f55cc0e159051cec0218a05d75f83a77ad4cab", checked := Try.checked }
namespace Rows
def none {H : Type} : Left H := { results := [], args := [] }

/-- 'inkhornlaw07.PiecesPlay': WHATEVER THE INPUT: true; the input reads as it did. -/
def piecesPlaySpec : ChangeSpec := { name := "piecesPlay", fn := fun _ => fun
  | [d1, d2] => { results := [.lit (.bool true)], args := [d1, d2] }
  | _ => none }
def piecesPlayRow : OpenClaim := { program := "ytblcggmbaofflaa", sum := "86c63bbed7f82f8a1f2ce8b311f55cc0e159051cec0218a05d75f83a77ad4cab", func := "inkhorn/inkhornlaw07.PiecesPlay", spec := "piecesPlay", inPlace := ["internal/bytealg.IndexByteString", "internal/bytealg.IndexString", "internal/abi.NoEscape"], unfollowed := true, recurses := true, named := ["internal/bytealg.MaxLen"], apart := false }
def PiecesPlaySaid : Prop := piecesPlayRow.holds Try.pinned (OpenSpec.ofChange piecesPlaySpec)

/-- ITS FALSE NEIGHBOUR: 'it returns false'. Refute it at one input. -/
def piecesPlayWrong : ChangeSpec := { name := "piecesPlay", fn := fun _ => fun
  | [d1, d2] => { results := [.lit (.bool false)], args := [d1, d2] }
  | _ => none }
def PiecesPlayWrongFalsely : Prop := piecesPlayRow.holds Try.pinned (OpenSpec.ofChange piecesPlayWrong)

/-- 'inkhornlaw07.PiecesAsk': WHATEVER THE INPUT: true; the input reads as it did. -/
def piecesAskSpec : ChangeSpec := { name := "piecesAsk", fn := fun _ => fun
  | [d1, d2, d3] => { results := [.lit (.bool true)], args := [d1, d2, d3] }
  | _ => none }
def piecesAskRow : OpenClaim := { program := "ytblcggmbaofflaa", sum := "86c63bbed7f82f8a1f2ce8b311f55cc0e159051cec0218a05d75f83a77ad4cab", func := "inkhorn/inkhornlaw07.PiecesAsk", spec := "piecesAsk", inPlace := ["internal/bytealg.IndexByteString", "internal/bytealg.IndexString", "internal/abi.NoEscape"], unfollowed := true, recurses := true, named := ["internal/bytealg.MaxLen"], apart := false }
def PiecesAskSaid : Prop := piecesAskRow.holds Try.pinned (OpenSpec.ofChange piecesAskSpec)

/-- ITS FALSE NEIGHBOUR: 'it returns false'. Refute it at one input. -/
def piecesAskWrong : ChangeSpec := { name := "piecesAsk", fn := fun _ => fun
  | [d1, d2, d3] => { results := [.lit (.bool false)], args := [d1, d2, d3] }
  | _ => none }
def PiecesAskWrongFalsely : Prop := piecesAskRow.holds Try.pinned (OpenSpec.ofChange piecesAskWrong)

/-- 'inkhornlaw07.PiecesNone': WHATEVER THE INPUT: true; the input reads as it did. -/
def piecesNoneSpec : ChangeSpec := { name := "piecesNone", fn := fun _ => fun
  | [d1, d2, d3] => { results := [.lit (.bool true)], args := [d1, d2, d3] }
  | _ => none }
def piecesNoneRow : OpenClaim := { program := "ytblcggmbaofflaa", sum := "86c63bbed7f82f8a1f2ce8b311f55cc0e159051cec0218a05d75f83a77ad4cab", func := "inkhorn/inkhornlaw07.PiecesNone", spec := "piecesNone", inPlace := ["internal/bytealg.IndexByteString", "internal/bytealg.IndexString", "internal/abi.NoEscape"], unfollowed := true, recurses := true, named := ["internal/bytealg.MaxLen"], apart := false }
def PiecesNoneSaid : Prop := piecesNoneRow.holds Try.pinned (OpenSpec.ofChange piecesNoneSpec)

/-- ITS FALSE NEIGHBOUR: 'it returns false'. Refute it at one input. -/
def piecesNoneWrong : ChangeSpec := { name := "piecesNone", fn := fun _ => fun
  | [d1, d2, d3] => { results := [.lit (.bool false)], args := [d1, d2, d3] }
  | _ => none }
def PiecesNoneWrongFalsely : Prop := piecesNoneRow.holds Try.pinned (OpenSpec.ofChange piecesNoneWrong)

/-- 'inkhornlaw07.PiecesStay': WHATEVER THE INPUT: true; the input reads as it did. -/
def piecesStaySpec : ChangeSpec := { name := "piecesStay", fn := fun _ => fun
  | [d1, d2, d3] => { results := [.lit (.bool true)], args := [d1, d2, d3] }
  | _ => none }
def piecesStayRow : OpenClaim := { program := "ytblcggmbaofflaa", sum := "86c63bbed7f82f8a1f2ce8b311f55cc0e159051cec0218a05d75f83a77ad4cab", func := "inkhorn/inkhornlaw07.PiecesStay", spec := "piecesStay", inPlace := ["internal/bytealg.IndexByteString", "internal/bytealg.IndexString", "internal/abi.NoEscape"], unfollowed := true, recurses := true, named := ["internal/bytealg.MaxLen"], apart := false }
def PiecesStaySaid : Prop := piecesStayRow.holds Try.pinned (OpenSpec.ofChange piecesStaySpec)

/-- ITS FALSE NEIGHBOUR: 'it returns false'. Refute it at one input. -/
def piecesStayWrong : ChangeSpec := { name := "piecesStay", fn := fun _ => fun
  | [d1, d2, d3] => { results := [.lit (.bool false)], args := [d1, d2, d3] }
  | _ => none }
def PiecesStayWrongFalsely : Prop := piecesStayRow.holds Try.pinned (OpenSpec.ofChange piecesStayWrong)

/-- 'inkhornlaw07.PiecesBack': WHATEVER THE INPUT: true; the input reads as it did. -/
def piecesBackSpec : ChangeSpec := { name := "piecesBack", fn := fun _ => fun
  | [d1, d2] => { results := [.lit (.bool true)], args := [d1, d2] }
  | _ => none }
def piecesBackRow : OpenClaim := { program := "ytblcggmbaofflaa", sum := "86c63bbed7f82f8a1f2ce8b311f55cc0e159051cec0218a05d75f83a77ad4cab", func := "inkhorn/inkhornlaw07.PiecesBack", spec := "piecesBack", inPlace := ["internal/bytealg.IndexByteString", "internal/bytealg.IndexString", "internal/abi.NoEscape"], unfollowed := true, recurses := true, named := ["internal/bytealg.MaxLen"], apart := false }
def PiecesBackSaid : Prop := piecesBackRow.holds Try.pinned (OpenSpec.ofChange piecesBackSpec)

/-- ITS FALSE NEIGHBOUR: 'it returns false'. Refute it at one input. -/
def piecesBackWrong : ChangeSpec := { name := "piecesBack", fn := fun _ => fun
  | [d1, d2] => { results := [.lit (.bool false)], args := [d1, d2] }
  | _ => none }
def PiecesBackWrongFalsely : Prop := piecesBackRow.holds Try.pinned (OpenSpec.ofChange piecesBackWrong)

/-- 'inkhornlaw07.PiecesMany': WHATEVER THE INPUT: true; the input reads as it did. -/
def piecesManySpec : ChangeSpec := { name := "piecesMany", fn := fun _ => fun
  | [d1, d2] => { results := [.lit (.bool true)], args := [d1, d2] }
  | _ => none }
def piecesManyRow : OpenClaim := { program := "ytblcggmbaofflaa", sum := "86c63bbed7f82f8a1f2ce8b311f55cc0e159051cec0218a05d75f83a77ad4cab", func := "inkhorn/inkhornlaw07.PiecesMany", spec := "piecesMany", inPlace := ["internal/bytealg.IndexByteString", "internal/bytealg.IndexString", "internal/abi.NoEscape"], unfollowed := true, recurses := true, named := ["internal/bytealg.MaxLen"], apart := false }
def PiecesManySaid : Prop := piecesManyRow.holds Try.pinned (OpenSpec.ofChange piecesManySpec)

/-- ITS FALSE NEIGHBOUR: 'it returns false'. Refute it at one input. -/
def piecesManyWrong : ChangeSpec := { name := "piecesMany", fn := fun _ => fun
  | [d1, d2] => { results := [.lit (.bool false)], args := [d1, d2] }
  | _ => none }
def PiecesManyWrongFalsely : Prop := piecesManyRow.holds Try.pinned (OpenSpec.ofChange piecesManyWrong)

/-- 'inkhornlaw07.PiecesLimits': WHATEVER THE INPUT: true; the input reads as it did. -/
def piecesLimitsSpec : ChangeSpec := { name := "piecesLimits", fn := fun _ => fun
  | [d1, d2] => { results := [.lit (.bool true)], args := [d1, d2] }
  | _ => none }
def piecesLimitsRow : OpenClaim := { program := "ytblcggmbaofflaa", sum := "86c63bbed7f82f8a1f2ce8b311f55cc0e159051cec0218a05d75f83a77ad4cab", func := "inkhorn/inkhornlaw07.PiecesLimits", spec := "piecesLimits", inPlace := ["internal/bytealg.IndexByteString", "internal/bytealg.IndexString", "internal/abi.NoEscape"], unfollowed := true, recurses := true, named := ["internal/bytealg.MaxLen"], apart := false }
def PiecesLimitsSaid : Prop := piecesLimitsRow.holds Try.pinned (OpenSpec.ofChange piecesLimitsSpec)

/-- ITS FALSE NEIGHBOUR: 'it returns false'. Refute it at one input. -/
def piecesLimitsWrong : ChangeSpec := { name := "piecesLimits", fn := fun _ => fun
  | [d1, d2] => { results := [.lit (.bool false)], args := [d1, d2] }
  | _ => none }
def PiecesLimitsWrongFalsely : Prop := piecesLimitsRow.holds Try.pinned (OpenSpec.ofChange piecesLimitsWrong)

/- THE SECOND FORM. 'bulk': how many values and letters a reading holds, each counted each time it is reached (what is shared counts as often as it is met; a slice's spare places count too). A statement '..UptoSaid' is the law's where the arguments, and the package variables that the reading takes, are together of bulk at most 1048576: NARROWER than '..Said'. Prove '..Said' where nothing that the law and all that it calls make is longer than what came in: it says more and counts as full. Else prove '..UptoSaid'. A law counts once. -/
mutual
def uptoBulk {H : Type} : DataW H → Nat
  | .lit (.string bytes) => bytes.length + 1
  | .lit _ => 1
  | .nil => 1
  | .ptr d => uptoBulk d + 1
  | .slice elems spare => uptoBulkAll elems + uptoBulkAll spare + 1
  | .agg parts => uptoBulkAll parts + 1
  | .iface _ d => uptoBulk d + 1
  | .map entries => uptoBulkEntries entries + 1
  | .held _ => 1
def uptoBulkAll {H : Type} : List (DataW H) → Nat
  | [] => 0
  | d :: r => uptoBulk d + uptoBulkAll r
def uptoBulkEntries {H : Type} : List (Lit × DataW H) → Nat
  | [] => 0
  | x :: r => uptoBulkEntry x + uptoBulkEntries r
def uptoBulkEntry {H : Type} : Lit × DataW H → Nat
  | (.string bytes, d) => bytes.length + uptoBulk d + 1
  | (_, d) => uptoBulk d + 1
 end
def uptoSmall : (H : Type) → List (DataW H) → Bool := fun _ ds => decide (uptoBulkAll ds ≤ 1048576)
def OpenSpec.upto (s : _root_.Go.ChangeSpec) : _root_.Go.OpenSpec := { _root_.Go.OpenSpec.ofChange s with cond := some uptoSmall }

/-- 'inkhornlaw07.PiecesPlay', WHERE WHAT IT READS IS OF BULK AT MOST 1048576: true; the input reads as it did. -/
def piecesPlayUptoRow : OpenClaim := { program := "ytblcggmbaofflaa", sum := "86c63bbed7f82f8a1f2ce8b311f55cc0e159051cec0218a05d75f83a77ad4cab", func := "inkhorn/inkhornlaw07.PiecesPlay", spec := "piecesPlay", inPlace := ["internal/bytealg.IndexByteString", "internal/bytealg.IndexString", "internal/abi.NoEscape"], unfollowed := true, recurses := true, named := ["internal/bytealg.MaxLen"], apart := false, narrowed := true }
def PiecesPlayUptoSaid : Prop := piecesPlayUptoRow.holds Try.pinned (OpenSpec.upto piecesPlaySpec)

/-- 'inkhornlaw07.PiecesAsk', WHERE WHAT IT READS IS OF BULK AT MOST 1048576: true; the input reads as it did. -/
def piecesAskUptoRow : OpenClaim := { program := "ytblcggmbaofflaa", sum := "86c63bbed7f82f8a1f2ce8b311f55cc0e159051cec0218a05d75f83a77ad4cab", func := "inkhorn/inkhornlaw07.PiecesAsk", spec := "piecesAsk", inPlace := ["internal/bytealg.IndexByteString", "internal/bytealg.IndexString", "internal/abi.NoEscape"], unfollowed := true, recurses := true, named := ["internal/bytealg.MaxLen"], apart := false, narrowed := true }
def PiecesAskUptoSaid : Prop := piecesAskUptoRow.holds Try.pinned (OpenSpec.upto piecesAskSpec)

/-- 'inkhornlaw07.PiecesNone', WHERE WHAT IT READS IS OF BULK AT MOST 1048576: true; the input reads as it did. -/
def piecesNoneUptoRow : OpenClaim := { program := "ytblcggmbaofflaa", sum := "86c63bbed7f82f8a1f2ce8b311f55cc0e159051cec0218a05d75f83a77ad4cab", func := "inkhorn/inkhornlaw07.PiecesNone", spec := "piecesNone", inPlace := ["internal/bytealg.IndexByteString", "internal/bytealg.IndexString", "internal/abi.NoEscape"], unfollowed := true, recurses := true, named := ["internal/bytealg.MaxLen"], apart := false, narrowed := true }
def PiecesNoneUptoSaid : Prop := piecesNoneUptoRow.holds Try.pinned (OpenSpec.upto piecesNoneSpec)

/-- 'inkhornlaw07.PiecesStay', WHERE WHAT IT READS IS OF BULK AT MOST 1048576: true; the input reads as it did. -/
def piecesStayUptoRow : OpenClaim := { program := "ytblcggmbaofflaa", sum := "86c63bbed7f82f8a1f2ce8b311f55cc0e159051cec0218a05d75f83a77ad4cab", func := "inkhorn/inkhornlaw07.PiecesStay", spec := "piecesStay", inPlace := ["internal/bytealg.IndexByteString", "internal/bytealg.IndexString", "internal/abi.NoEscape"], unfollowed := true, recurses := true, named := ["internal/bytealg.MaxLen"], apart := false, narrowed := true }
def PiecesStayUptoSaid : Prop := piecesStayUptoRow.holds Try.pinned (OpenSpec.upto piecesStaySpec)

/-- 'inkhornlaw07.PiecesBack', WHERE WHAT IT READS IS OF BULK AT MOST 1048576: true; the input reads as it did. -/
def piecesBackUptoRow : OpenClaim := { program := "ytblcggmbaofflaa", sum := "86c63bbed7f82f8a1f2ce8b311f55cc0e159051cec0218a05d75f83a77ad4cab", func := "inkhorn/inkhornlaw07.PiecesBack", spec := "piecesBack", inPlace := ["internal/bytealg.IndexByteString", "internal/bytealg.IndexString", "internal/abi.NoEscape"], unfollowed := true, recurses := true, named := ["internal/bytealg.MaxLen"], apart := false, narrowed := true }
def PiecesBackUptoSaid : Prop := piecesBackUptoRow.holds Try.pinned (OpenSpec.upto piecesBackSpec)

/-- 'inkhornlaw07.PiecesMany', WHERE WHAT IT READS IS OF BULK AT MOST 1048576: true; the input reads as it did. -/
def piecesManyUptoRow : OpenClaim := { program := "ytblcggmbaofflaa", sum := "86c63bbed7f82f8a1f2ce8b311f55cc0e159051cec0218a05d75f83a77ad4cab", func := "inkhorn/inkhornlaw07.PiecesMany", spec := "piecesMany", inPlace := ["internal/bytealg.IndexByteString", "internal/bytealg.IndexString", "internal/abi.NoEscape"], unfollowed := true, recurses := true, named := ["internal/bytealg.MaxLen"], apart := false, narrowed := true }
def PiecesManyUptoSaid : Prop := piecesManyUptoRow.holds Try.pinned (OpenSpec.upto piecesManySpec)

/-- 'inkhornlaw07.PiecesLimits', WHERE WHAT IT READS IS OF BULK AT MOST 1048576: true; the input reads as it did. -/
def piecesLimitsUptoRow : OpenClaim := { program := "ytblcggmbaofflaa", sum := "86c63bbed7f82f8a1f2ce8b311f55cc0e159051cec0218a05d75f83a77ad4cab", func := "inkhorn/inkhornlaw07.PiecesLimits", spec := "piecesLimits", inPlace := ["internal/bytealg.IndexByteString", "internal/bytealg.IndexString", "internal/abi.NoEscape"], unfollowed := true, recurses := true, named := ["internal/bytealg.MaxLen"], apart := false, narrowed := true }
def PiecesLimitsUptoSaid : Prop := piecesLimitsUptoRow.holds Try.pinned (OpenSpec.upto piecesLimitsSpec)

end Rows
end Go.Proofs.Ytblcggmbaofflaa
