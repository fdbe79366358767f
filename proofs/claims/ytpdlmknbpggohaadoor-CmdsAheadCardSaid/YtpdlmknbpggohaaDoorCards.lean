/-
  DERIVED. GIVEN WITH THE SEED: THE CARDS: each row of YtpdlmknbpggohaaDoorRows.lean that lists a variable, with what it lists TIED to the program's text (the seventh form; the later family's looks); each row that meets fmt, with fmt's text TOLD by the authors' own Lean function (tested against real Go, not proved from fmt's source: count such statements apart). THE CARD IS WHAT COUNTS. Prove the row's statement (the work); the ties are given (YtpdlmknbpggohaaDoorTie.lean); close each card by the builder's one call (the guide's Derived/Test/ToyasCard.lean, 'card_holds'). Laid BY PROGRAM, IN A SANDBOX (cutbox-door.mjs). By AI agents, Wed Nov 11 2026. No macro, syntax, notation, axiom, sorry.
-/
import Derived.Test.YtpdlmknbpggohaaDoorRows
import GoSem.ClaimSeven
namespace Go.Proofs.YtpdlmknbpggohaaDoor
namespace Rows

/-- THE TIED CARD OF 'inkhornlaw21.CmdsMay'. -/
def cmdsMayCard : Claim7 := { stood := { row := cmdsMayRow, standIns := [], harness := (true, "7a7bfec701c6c57f8c8eda48ece9b86a5123383be4824f5151f6bacf5eeee609"), looks := true }, kinds := [], alts := [], laidByText := true, laidKinds := [.data, .pinned], laidTests := true, laidLooks := .later }
def CmdsMayCardSaid : Prop := Claim7.holds Tryd.pinned (.plain (OpenSpec.ofChange cmdsMaySpec)) cmdsMayCard

/-- THE TIED CARD OF 'inkhornlaw21.CmdsAhead'. -/
def cmdsAheadCard : Claim7 := { stood := { row := cmdsAheadRow, standIns := [], harness := (true, "7a7bfec701c6c57f8c8eda48ece9b86a5123383be4824f5151f6bacf5eeee609"), looks := true }, kinds := [], alts := [], laidByText := true, laidKinds := [.data, .pinned], laidTests := true, laidLooks := .later }
def CmdsAheadCardSaid : Prop := Claim7.holds Tryd.pinned (.plain (OpenSpec.ofChange cmdsAheadSpec)) cmdsAheadCard

/-- THE SECOND FORM's CARD OF 'inkhornlaw21.CmdsMay'. -/
def cmdsMayUptoCard : Claim7 := { stood := { row := cmdsMayUptoRow, standIns := [], harness := (true, "7a7bfec701c6c57f8c8eda48ece9b86a5123383be4824f5151f6bacf5eeee609"), looks := true }, kinds := [], alts := [], laidByText := true, laidKinds := [.data, .pinned], laidTests := true, laidLooks := .later }
def CmdsMayUptoCardSaid : Prop := Claim7.holds Tryd.pinned (.plain (OpenSpec.upto cmdsMaySpec)) cmdsMayUptoCard

/-- THE SECOND FORM's CARD OF 'inkhornlaw21.CmdsAhead'. -/
def cmdsAheadUptoCard : Claim7 := { stood := { row := cmdsAheadUptoRow, standIns := [], harness := (true, "7a7bfec701c6c57f8c8eda48ece9b86a5123383be4824f5151f6bacf5eeee609"), looks := true }, kinds := [], alts := [], laidByText := true, laidKinds := [.data, .pinned], laidTests := true, laidLooks := .later }
def CmdsAheadUptoCardSaid : Prop := Claim7.holds Tryd.pinned (.plain (OpenSpec.upto cmdsAheadSpec)) cmdsAheadUptoCard
end Rows
end Go.Proofs.YtpdlmknbpggohaaDoor
