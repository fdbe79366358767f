/-
  DERIVED. GIVEN WITH THE SEED: THE CARDS: each row of YtnjagecmhdagkaaGreatDoorRows.lean that lists a variable, with what it lists TIED to the program's text (the seventh form; the later family's looks); each row that meets fmt, with fmt's text TOLD by the authors' own Lean function (tested against real Go, not proved from fmt's source: count such statements apart). THE CARD IS WHAT COUNTS. Prove the row's statement (the work); the ties are given (YtnjagecmhdagkaaGreatDoorTie.lean); close each card by the builder's one call (the guide's Derived/Test/ToyasCard.lean, 'card_holds'). Laid BY PROGRAM, IN A SANDBOX (cutbox-door.mjs). By AI agents, Wed Nov 11 2026. No macro, syntax, notation, axiom, sorry.
-/
import Derived.Test.YtnjagecmhdagkaaGreatDoorRows
import GoSem.ClaimSeven
namespace Go.Proofs.YtnjagecmhdagkaaGreatDoor
namespace Rows

/-- THE TIED CARD OF 'inkhornlaw10.MatchPlain'. -/
def matchPlainCard : Claim7 := { stood := { row := matchPlainRow, standIns := [], harness := (true, "d24ede0144ff3336332ef8ae1b431bdf625edb031105d0ba5ce526d32184b8dc"), looks := true }, kinds := [], alts := [], laidByText := true, laidKinds := [.data, .data, .pinned], laidTests := true, laidLooks := .later }
def MatchPlainCardSaid : Prop := Claim7.holds Tryz.pinned (.plain (OpenSpec.ofChange matchPlainSpec)) matchPlainCard

/-- THE TIED CARD OF 'inkhornlaw10.MatchRefs'. -/
def matchRefsCard : Claim7 := { stood := { row := matchRefsRow, standIns := [], harness := (true, "d24ede0144ff3336332ef8ae1b431bdf625edb031105d0ba5ce526d32184b8dc"), looks := true }, kinds := [], alts := [], laidByText := true, laidKinds := [.data, .data, .pinned], laidTests := true, laidLooks := .later }
def MatchRefsCardSaid : Prop := Claim7.holds Tryz.pinned (.plain (OpenSpec.ofChange matchRefsSpec)) matchRefsCard

/-- THE TIED CARD OF 'inkhornlaw10.MatchWays'. -/
def matchWaysCard : Claim7 := { stood := { row := matchWaysRow, standIns := [], harness := (true, "d24ede0144ff3336332ef8ae1b431bdf625edb031105d0ba5ce526d32184b8dc"), looks := true }, kinds := [], alts := [], laidByText := true, laidKinds := [.data, .data, .pinned], laidTests := true, laidLooks := .later }
def MatchWaysCardSaid : Prop := Claim7.holds Tryz.pinned (.plain (OpenSpec.ofChange matchWaysSpec)) matchWaysCard

/-- THE TIED CARD OF 'inkhornlaw10.MatchWithin'. -/
def matchWithinCard : Claim7 := { stood := { row := matchWithinRow, standIns := [], harness := (true, "d24ede0144ff3336332ef8ae1b431bdf625edb031105d0ba5ce526d32184b8dc"), looks := true }, kinds := [], alts := [], laidByText := true, laidKinds := [.data, .data, .pinned], laidTests := true, laidLooks := .later }
def MatchWithinCardSaid : Prop := Claim7.holds Tryz.pinned (.plain (OpenSpec.ofChange matchWithinSpec)) matchWithinCard

/-- THE SECOND FORM's CARD OF 'inkhornlaw10.MatchPlain'. -/
def matchPlainUptoCard : Claim7 := { stood := { row := matchPlainUptoRow, standIns := [], harness := (true, "d24ede0144ff3336332ef8ae1b431bdf625edb031105d0ba5ce526d32184b8dc"), looks := true }, kinds := [], alts := [], laidByText := true, laidKinds := [.data, .data, .pinned], laidTests := true, laidLooks := .later }
def MatchPlainUptoCardSaid : Prop := Claim7.holds Tryz.pinned (.plain (OpenSpec.upto matchPlainSpec)) matchPlainUptoCard

/-- THE SECOND FORM's CARD OF 'inkhornlaw10.MatchRefs'. -/
def matchRefsUptoCard : Claim7 := { stood := { row := matchRefsUptoRow, standIns := [], harness := (true, "d24ede0144ff3336332ef8ae1b431bdf625edb031105d0ba5ce526d32184b8dc"), looks := true }, kinds := [], alts := [], laidByText := true, laidKinds := [.data, .data, .pinned], laidTests := true, laidLooks := .later }
def MatchRefsUptoCardSaid : Prop := Claim7.holds Tryz.pinned (.plain (OpenSpec.upto matchRefsSpec)) matchRefsUptoCard

/-- THE SECOND FORM's CARD OF 'inkhornlaw10.MatchWays'. -/
def matchWaysUptoCard : Claim7 := { stood := { row := matchWaysUptoRow, standIns := [], harness := (true, "d24ede0144ff3336332ef8ae1b431bdf625edb031105d0ba5ce526d32184b8dc"), looks := true }, kinds := [], alts := [], laidByText := true, laidKinds := [.data, .data, .pinned], laidTests := true, laidLooks := .later }
def MatchWaysUptoCardSaid : Prop := Claim7.holds Tryz.pinned (.plain (OpenSpec.upto matchWaysSpec)) matchWaysUptoCard

/-- THE SECOND FORM's CARD OF 'inkhornlaw10.MatchWithin'. -/
def matchWithinUptoCard : Claim7 := { stood := { row := matchWithinUptoRow, standIns := [], harness := (true, "d24ede0144ff3336332ef8ae1b431bdf625edb031105d0ba5ce526d32184b8dc"), looks := true }, kinds := [], alts := [], laidByText := true, laidKinds := [.data, .data, .pinned], laidTests := true, laidLooks := .later }
def MatchWithinUptoCardSaid : Prop := Claim7.holds Tryz.pinned (.plain (OpenSpec.upto matchWithinSpec)) matchWithinUptoCard
end Rows
end Go.Proofs.YtnjagecmhdagkaaGreatDoor
