/-
  DERIVED. GIVEN WITH THE SEED: THE CARDS: each row of YtkomggeionofbaaGreatDoorRows.lean that lists a variable, with what it lists TIED to the program's text (the seventh form; the later family's looks); each row that meets fmt, with fmt's text TOLD by the authors' own Lean function (tested against real Go, not proved from fmt's source: count such statements apart). THE CARD IS WHAT COUNTS. Prove the row's statement (the work); the ties are given (YtkomggeionofbaaGreatDoorTie.lean); close each card by the builder's one call (the guide's Derived/Test/ToyasCard.lean, 'card_holds'). Laid BY PROGRAM, IN A SANDBOX (cutbox-door.mjs). By AI agents, Wed Nov 11 2026. No macro, syntax, notation, axiom, sorry.
-/
import Derived.Test.YtkomggeionofbaaGreatDoorRows
import GoSem.ClaimSeven
namespace Go.Proofs.YtkomggeionofbaaGreatDoor
namespace Rows

/-- THE TIED CARD OF 'inkhornlaw22.SubstNone'. -/
def substNoneCard : Claim7 := { stood := { row := substNoneRow, standIns := [], harness := (true, "eec115fc38143e21b08d763f978a8d3fa790d710ae9aa48d9dbaf42cfc3fad46"), looks := true }, kinds := [], alts := [], laidByText := true, laidKinds := [.data, .data, .pinned], laidTests := true, laidLooks := .later }
def SubstNoneCardSaid : Prop := Claim7.holds Tryz.pinned (.plain (OpenSpec.ofChange substNoneSpec)) substNoneCard

/-- THE SECOND FORM's CARD OF 'inkhornlaw22.SubstNone'. -/
def substNoneUptoCard : Claim7 := { stood := { row := substNoneUptoRow, standIns := [], harness := (true, "eec115fc38143e21b08d763f978a8d3fa790d710ae9aa48d9dbaf42cfc3fad46"), looks := true }, kinds := [], alts := [], laidByText := true, laidKinds := [.data, .data, .pinned], laidTests := true, laidLooks := .later }
def SubstNoneUptoCardSaid : Prop := Claim7.holds Tryz.pinned (.plain (OpenSpec.upto substNoneSpec)) substNoneUptoCard
end Rows
end Go.Proofs.YtkomggeionofbaaGreatDoor
