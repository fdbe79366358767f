/-
  DERIVED. GIVEN WITH THE SEED: THE CARDS: each row of YtmobcljinfoacaaDoorRows.lean that lists a variable, with what it lists TIED to the program's text (the seventh form; the later family's looks); each row that meets fmt, with fmt's text TOLD by the authors' own Lean function (tested against real Go, not proved from fmt's source: count such statements apart). THE CARD IS WHAT COUNTS. Prove the row's statement (the work); the ties are given (YtmobcljinfoacaaDoorTie.lean); close each card by the builder's one call (the guide's Derived/Test/ToyasCard.lean, 'card_holds'). Laid BY PROGRAM, IN A SANDBOX (cutbox-door.mjs). By AI agents, Wed Nov 11 2026. No macro, syntax, notation, axiom, sorry.
-/
import Derived.Test.YtmobcljinfoacaaDoorRows
import GoSem.ClaimSeven
namespace Go.Proofs.YtmobcljinfoacaaDoor
namespace Rows

/-- THE TIED CARD OF 'inkhornlaw09.BreParse'. -/
def breParseCard : Claim7 := { stood := { row := breParseRow, standIns := [], harness := (true, "bcdcdc2b6a14f6959ba1ef4df86f44b2b05a23c42c995ccf3d6bc95393a1463a"), looks := true }, kinds := [], alts := [], laidByText := true, laidKinds := [.data, .pinned], laidTests := true, laidLooks := .later }
def BreParseCardSaid : Prop := Claim7.holds Tryd.pinned (.plain (OpenSpec.ofChange breParseSpec)) breParseCard

/-- THE TIED CARD OF 'inkhornlaw09.BreNodes'. -/
def breNodesCard : Claim7 := { stood := { row := breNodesRow, standIns := [], harness := (true, "bcdcdc2b6a14f6959ba1ef4df86f44b2b05a23c42c995ccf3d6bc95393a1463a"), looks := true }, kinds := [], alts := [], laidByText := true, laidKinds := [.data, .pinned], laidTests := true, laidLooks := .later }
def BreNodesCardSaid : Prop := Claim7.holds Tryd.pinned (.plain (OpenSpec.ofChange breNodesSpec)) breNodesCard

/-- THE SECOND FORM's CARD OF 'inkhornlaw09.BreParse'. -/
def breParseUptoCard : Claim7 := { stood := { row := breParseUptoRow, standIns := [], harness := (true, "bcdcdc2b6a14f6959ba1ef4df86f44b2b05a23c42c995ccf3d6bc95393a1463a"), looks := true }, kinds := [], alts := [], laidByText := true, laidKinds := [.data, .pinned], laidTests := true, laidLooks := .later }
def BreParseUptoCardSaid : Prop := Claim7.holds Tryd.pinned (.plain (OpenSpec.upto breParseSpec)) breParseUptoCard

/-- THE SECOND FORM's CARD OF 'inkhornlaw09.BreNodes'. -/
def breNodesUptoCard : Claim7 := { stood := { row := breNodesUptoRow, standIns := [], harness := (true, "bcdcdc2b6a14f6959ba1ef4df86f44b2b05a23c42c995ccf3d6bc95393a1463a"), looks := true }, kinds := [], alts := [], laidByText := true, laidKinds := [.data, .pinned], laidTests := true, laidLooks := .later }
def BreNodesUptoCardSaid : Prop := Claim7.holds Tryd.pinned (.plain (OpenSpec.upto breNodesSpec)) breNodesUptoCard
end Rows
end Go.Proofs.YtmobcljinfoacaaDoor
