/-
  DERIVED. GIVEN WITH THE SEED: THE CARDS: each row of YtnjagecmhdagkaaDoorRows.lean that lists a variable, with what it lists TIED to the program's text (the seventh form; the later family's looks); each row that meets fmt, with fmt's text TOLD by the authors' own Lean function (tested against real Go, not proved from fmt's source: count such statements apart). THE CARD IS WHAT COUNTS. Prove the row's statement (the work); the ties are given (YtnjagecmhdagkaaDoorTie.lean); close each card by the builder's one call (the guide's Derived/Test/ToyasCard.lean, 'card_holds'). Laid BY PROGRAM, IN A SANDBOX (cutbox-door.mjs). By AI agents, Wed Nov 11 2026. No macro, syntax, notation, axiom, sorry.
-/
import Derived.Test.YtnjagecmhdagkaaDoorRows
import GoSem.ClaimSeven
namespace Go.Proofs.YtnjagecmhdagkaaDoor
namespace Rows

/-- THE TIED CARD OF 'inkhornlaw10.MatchNone'. -/
def matchNoneCard : Claim7 := { stood := { row := matchNoneRow, standIns := [], harness := (true, "2fd55f74e709e9bfbe6d1f76bd5c8d3213af3b513d9cf569de4fc96be2254882"), looks := true }, kinds := [], alts := [], laidByText := true, laidKinds := [.data, .data, .pinned], laidTests := true, laidLooks := .later }
def MatchNoneCardSaid : Prop := Claim7.holds Tryd.pinned (.plain (OpenSpec.ofChange matchNoneSpec)) matchNoneCard

/-- THE TIED CARD OF 'inkhornlaw10.MatchRow'. -/
def matchRowCard : Claim7 := { stood := { row := matchRowRow, standIns := [], harness := (true, "2fd55f74e709e9bfbe6d1f76bd5c8d3213af3b513d9cf569de4fc96be2254882"), looks := true }, kinds := [], alts := [], laidByText := true, laidKinds := [.data, .data, .pinned], laidTests := true, laidLooks := .later }
def MatchRowCardSaid : Prop := Claim7.holds Tryd.pinned (.plain (OpenSpec.ofChange matchRowSpec)) matchRowCard

/-- THE TIED CARD OF 'inkhornlaw10.MatchGroups'. -/
def matchGroupsCard : Claim7 := { stood := { row := matchGroupsRow, standIns := [], harness := (true, "2fd55f74e709e9bfbe6d1f76bd5c8d3213af3b513d9cf569de4fc96be2254882"), looks := true }, kinds := [], alts := [], laidByText := true, laidKinds := [.data, .data, .pinned], laidTests := true, laidLooks := .later }
def MatchGroupsCardSaid : Prop := Claim7.holds Tryd.pinned (.plain (OpenSpec.ofChange matchGroupsSpec)) matchGroupsCard

/-- THE TIED CARD OF 'inkhornlaw10.MatchItself'. -/
def matchItselfCard : Claim7 := { stood := { row := matchItselfRow, standIns := [], harness := (true, "2fd55f74e709e9bfbe6d1f76bd5c8d3213af3b513d9cf569de4fc96be2254882"), looks := true }, kinds := [], alts := [], laidByText := true, laidKinds := [.data, .data, .pinned], laidTests := true, laidLooks := .later }
def MatchItselfCardSaid : Prop := Claim7.holds Tryd.pinned (.plain (OpenSpec.ofChange matchItselfSpec)) matchItselfCard

/-- THE TIED CARD OF 'inkhornlaw10.MatchTimes'. -/
def matchTimesCard : Claim7 := { stood := { row := matchTimesRow, standIns := [], harness := (true, "2fd55f74e709e9bfbe6d1f76bd5c8d3213af3b513d9cf569de4fc96be2254882"), looks := true }, kinds := [], alts := [], laidByText := true, laidKinds := [.data, .data, .pinned], laidTests := true, laidLooks := .later }
def MatchTimesCardSaid : Prop := Claim7.holds Tryd.pinned (.plain (OpenSpec.ofChange matchTimesSpec)) matchTimesCard

/-- THE TIED CARD OF 'inkhornlaw10.MatchTwice'. -/
def matchTwiceCard : Claim7 := { stood := { row := matchTwiceRow, standIns := [], harness := (true, "2fd55f74e709e9bfbe6d1f76bd5c8d3213af3b513d9cf569de4fc96be2254882"), looks := true }, kinds := [], alts := [], laidByText := true, laidKinds := [.data, .data, .pinned], laidTests := true, laidLooks := .later }
def MatchTwiceCardSaid : Prop := Claim7.holds Tryd.pinned (.plain (OpenSpec.ofChange matchTwiceSpec)) matchTwiceCard

/-- THE SECOND FORM's CARD OF 'inkhornlaw10.MatchNone'. -/
def matchNoneUptoCard : Claim7 := { stood := { row := matchNoneUptoRow, standIns := [], harness := (true, "2fd55f74e709e9bfbe6d1f76bd5c8d3213af3b513d9cf569de4fc96be2254882"), looks := true }, kinds := [], alts := [], laidByText := true, laidKinds := [.data, .data, .pinned], laidTests := true, laidLooks := .later }
def MatchNoneUptoCardSaid : Prop := Claim7.holds Tryd.pinned (.plain (OpenSpec.upto matchNoneSpec)) matchNoneUptoCard

/-- THE SECOND FORM's CARD OF 'inkhornlaw10.MatchRow'. -/
def matchRowUptoCard : Claim7 := { stood := { row := matchRowUptoRow, standIns := [], harness := (true, "2fd55f74e709e9bfbe6d1f76bd5c8d3213af3b513d9cf569de4fc96be2254882"), looks := true }, kinds := [], alts := [], laidByText := true, laidKinds := [.data, .data, .pinned], laidTests := true, laidLooks := .later }
def MatchRowUptoCardSaid : Prop := Claim7.holds Tryd.pinned (.plain (OpenSpec.upto matchRowSpec)) matchRowUptoCard

/-- THE SECOND FORM's CARD OF 'inkhornlaw10.MatchGroups'. -/
def matchGroupsUptoCard : Claim7 := { stood := { row := matchGroupsUptoRow, standIns := [], harness := (true, "2fd55f74e709e9bfbe6d1f76bd5c8d3213af3b513d9cf569de4fc96be2254882"), looks := true }, kinds := [], alts := [], laidByText := true, laidKinds := [.data, .data, .pinned], laidTests := true, laidLooks := .later }
def MatchGroupsUptoCardSaid : Prop := Claim7.holds Tryd.pinned (.plain (OpenSpec.upto matchGroupsSpec)) matchGroupsUptoCard

/-- THE SECOND FORM's CARD OF 'inkhornlaw10.MatchItself'. -/
def matchItselfUptoCard : Claim7 := { stood := { row := matchItselfUptoRow, standIns := [], harness := (true, "2fd55f74e709e9bfbe6d1f76bd5c8d3213af3b513d9cf569de4fc96be2254882"), looks := true }, kinds := [], alts := [], laidByText := true, laidKinds := [.data, .data, .pinned], laidTests := true, laidLooks := .later }
def MatchItselfUptoCardSaid : Prop := Claim7.holds Tryd.pinned (.plain (OpenSpec.upto matchItselfSpec)) matchItselfUptoCard

/-- THE SECOND FORM's CARD OF 'inkhornlaw10.MatchTimes'. -/
def matchTimesUptoCard : Claim7 := { stood := { row := matchTimesUptoRow, standIns := [], harness := (true, "2fd55f74e709e9bfbe6d1f76bd5c8d3213af3b513d9cf569de4fc96be2254882"), looks := true }, kinds := [], alts := [], laidByText := true, laidKinds := [.data, .data, .pinned], laidTests := true, laidLooks := .later }
def MatchTimesUptoCardSaid : Prop := Claim7.holds Tryd.pinned (.plain (OpenSpec.upto matchTimesSpec)) matchTimesUptoCard

/-- THE SECOND FORM's CARD OF 'inkhornlaw10.MatchTwice'. -/
def matchTwiceUptoCard : Claim7 := { stood := { row := matchTwiceUptoRow, standIns := [], harness := (true, "2fd55f74e709e9bfbe6d1f76bd5c8d3213af3b513d9cf569de4fc96be2254882"), looks := true }, kinds := [], alts := [], laidByText := true, laidKinds := [.data, .data, .pinned], laidTests := true, laidLooks := .later }
def MatchTwiceUptoCardSaid : Prop := Claim7.holds Tryd.pinned (.plain (OpenSpec.upto matchTwiceSpec)) matchTwiceUptoCard
end Rows
end Go.Proofs.YtnjagecmhdagkaaDoor
