/-
  DERIVED. GIVEN WITH THE SEED: THE CARDS: each row of YtpignlkojlbhkaaDoorRows.lean that lists a variable, with what it lists TIED to the program's text (the seventh form; the later family's looks); each row that meets fmt, with fmt's text TOLD by the authors' own Lean function (tested against real Go, not proved from fmt's source: count such statements apart). THE CARD IS WHAT COUNTS. Prove the row's statement (the work); the ties are given (YtpignlkojlbhkaaDoorTie.lean); close each card by the builder's one call (the guide's Derived/Test/ToyasCard.lean, 'card_holds'). Laid BY PROGRAM, IN A SANDBOX (cutbox-door.mjs). By AI agents, Wed Nov 11 2026. No macro, syntax, notation, axiom, sorry.
-/
import Derived.Test.YtpignlkojlbhkaaDoorRows
import GoSem.ClaimSeven
namespace Go.Proofs.YtpignlkojlbhkaaDoor
namespace Rows

/-- THE TIED CARD OF 'inkhornlaw09.BreParse'. -/
def breParseCard : Claim7 := { stood := { row := breParseRow, standIns := [], harness := (true, "563437bfabaea9d451afbb62ae9bf0741423de4454da6a96bc6afdd4d780a4a1"), looks := true }, kinds := [], alts := [], laidByText := true, laidKinds := [.data, .pinned], laidTests := true, laidLooks := .later }
def BreParseCardSaid : Prop := Claim7.holds Tryd.pinned (.plain (OpenSpec.ofChange breParseSpec)) breParseCard

/-- THE TIED CARD OF 'inkhornlaw09.BreNone'. -/
def breNoneCard : Claim7 := { stood := { row := breNoneRow, standIns := [], harness := (true, "563437bfabaea9d451afbb62ae9bf0741423de4454da6a96bc6afdd4d780a4a1"), looks := true }, kinds := [], alts := [], laidByText := true, laidKinds := [.data, .pinned], laidTests := true, laidLooks := .later }
def BreNoneCardSaid : Prop := Claim7.holds Tryd.pinned (.plain (OpenSpec.ofChange breNoneSpec)) breNoneCard

/-- THE TIED CARD OF 'inkhornlaw09.BreNodes'. -/
def breNodesCard : Claim7 := { stood := { row := breNodesRow, standIns := [], harness := (true, "563437bfabaea9d451afbb62ae9bf0741423de4454da6a96bc6afdd4d780a4a1"), looks := true }, kinds := [], alts := [], laidByText := true, laidKinds := [.data, .pinned], laidTests := true, laidLooks := .later }
def BreNodesCardSaid : Prop := Claim7.holds Tryd.pinned (.plain (OpenSpec.ofChange breNodesSpec)) breNodesCard

/-- THE TIED CARD OF 'inkhornlaw09.BreItself'. -/
def breItselfCard : Claim7 := { stood := { row := breItselfRow, standIns := [], harness := (true, "563437bfabaea9d451afbb62ae9bf0741423de4454da6a96bc6afdd4d780a4a1"), looks := true }, kinds := [], alts := [], laidByText := true, laidKinds := [.data, .pinned], laidTests := true, laidLooks := .later }
def BreItselfCardSaid : Prop := Claim7.holds Tryd.pinned (.plain (OpenSpec.ofChange breItselfSpec)) breItselfCard

/-- THE TIED CARD OF 'inkhornlaw09.BreRow'. -/
def breRowCard : Claim7 := { stood := { row := breRowRow, standIns := [], harness := (true, "563437bfabaea9d451afbb62ae9bf0741423de4454da6a96bc6afdd4d780a4a1"), looks := true }, kinds := [], alts := [], laidByText := true, laidKinds := [.data, .pinned], laidTests := true, laidLooks := .later }
def BreRowCardSaid : Prop := Claim7.holds Tryd.pinned (.plain (OpenSpec.ofChange breRowSpec)) breRowCard

/-- THE TIED CARD OF 'inkhornlaw09.BreTimes'. -/
def breTimesCard : Claim7 := { stood := { row := breTimesRow, standIns := [], harness := (true, "563437bfabaea9d451afbb62ae9bf0741423de4454da6a96bc6afdd4d780a4a1"), looks := true }, kinds := [], alts := [], laidByText := true, laidKinds := [.data, .pinned], laidTests := true, laidLooks := .later }
def BreTimesCardSaid : Prop := Claim7.holds Tryd.pinned (.plain (OpenSpec.ofChange breTimesSpec)) breTimesCard

/-- THE TIED CARD OF 'inkhornlaw09.BreLimits'. -/
def breLimitsCard : Claim7 := { stood := { row := breLimitsRow, standIns := [], harness := (true, "563437bfabaea9d451afbb62ae9bf0741423de4454da6a96bc6afdd4d780a4a1"), looks := true }, kinds := [], alts := [], laidByText := true, laidKinds := [.data, .pinned], laidTests := true, laidLooks := .later }
def BreLimitsCardSaid : Prop := Claim7.holds Tryd.pinned (.plain (OpenSpec.ofChange breLimitsSpec)) breLimitsCard

/-- THE SECOND FORM's CARD OF 'inkhornlaw09.BreParse'. -/
def breParseUptoCard : Claim7 := { stood := { row := breParseUptoRow, standIns := [], harness := (true, "563437bfabaea9d451afbb62ae9bf0741423de4454da6a96bc6afdd4d780a4a1"), looks := true }, kinds := [], alts := [], laidByText := true, laidKinds := [.data, .pinned], laidTests := true, laidLooks := .later }
def BreParseUptoCardSaid : Prop := Claim7.holds Tryd.pinned (.plain (OpenSpec.upto breParseSpec)) breParseUptoCard

/-- THE SECOND FORM's CARD OF 'inkhornlaw09.BreNone'. -/
def breNoneUptoCard : Claim7 := { stood := { row := breNoneUptoRow, standIns := [], harness := (true, "563437bfabaea9d451afbb62ae9bf0741423de4454da6a96bc6afdd4d780a4a1"), looks := true }, kinds := [], alts := [], laidByText := true, laidKinds := [.data, .pinned], laidTests := true, laidLooks := .later }
def BreNoneUptoCardSaid : Prop := Claim7.holds Tryd.pinned (.plain (OpenSpec.upto breNoneSpec)) breNoneUptoCard

/-- THE SECOND FORM's CARD OF 'inkhornlaw09.BreNodes'. -/
def breNodesUptoCard : Claim7 := { stood := { row := breNodesUptoRow, standIns := [], harness := (true, "563437bfabaea9d451afbb62ae9bf0741423de4454da6a96bc6afdd4d780a4a1"), looks := true }, kinds := [], alts := [], laidByText := true, laidKinds := [.data, .pinned], laidTests := true, laidLooks := .later }
def BreNodesUptoCardSaid : Prop := Claim7.holds Tryd.pinned (.plain (OpenSpec.upto breNodesSpec)) breNodesUptoCard

/-- THE SECOND FORM's CARD OF 'inkhornlaw09.BreItself'. -/
def breItselfUptoCard : Claim7 := { stood := { row := breItselfUptoRow, standIns := [], harness := (true, "563437bfabaea9d451afbb62ae9bf0741423de4454da6a96bc6afdd4d780a4a1"), looks := true }, kinds := [], alts := [], laidByText := true, laidKinds := [.data, .pinned], laidTests := true, laidLooks := .later }
def BreItselfUptoCardSaid : Prop := Claim7.holds Tryd.pinned (.plain (OpenSpec.upto breItselfSpec)) breItselfUptoCard

/-- THE SECOND FORM's CARD OF 'inkhornlaw09.BreRow'. -/
def breRowUptoCard : Claim7 := { stood := { row := breRowUptoRow, standIns := [], harness := (true, "563437bfabaea9d451afbb62ae9bf0741423de4454da6a96bc6afdd4d780a4a1"), looks := true }, kinds := [], alts := [], laidByText := true, laidKinds := [.data, .pinned], laidTests := true, laidLooks := .later }
def BreRowUptoCardSaid : Prop := Claim7.holds Tryd.pinned (.plain (OpenSpec.upto breRowSpec)) breRowUptoCard

/-- THE SECOND FORM's CARD OF 'inkhornlaw09.BreTimes'. -/
def breTimesUptoCard : Claim7 := { stood := { row := breTimesUptoRow, standIns := [], harness := (true, "563437bfabaea9d451afbb62ae9bf0741423de4454da6a96bc6afdd4d780a4a1"), looks := true }, kinds := [], alts := [], laidByText := true, laidKinds := [.data, .pinned], laidTests := true, laidLooks := .later }
def BreTimesUptoCardSaid : Prop := Claim7.holds Tryd.pinned (.plain (OpenSpec.upto breTimesSpec)) breTimesUptoCard

/-- THE SECOND FORM's CARD OF 'inkhornlaw09.BreLimits'. -/
def breLimitsUptoCard : Claim7 := { stood := { row := breLimitsUptoRow, standIns := [], harness := (true, "563437bfabaea9d451afbb62ae9bf0741423de4454da6a96bc6afdd4d780a4a1"), looks := true }, kinds := [], alts := [], laidByText := true, laidKinds := [.data, .pinned], laidTests := true, laidLooks := .later }
def BreLimitsUptoCardSaid : Prop := Claim7.holds Tryd.pinned (.plain (OpenSpec.upto breLimitsSpec)) breLimitsUptoCard
end Rows
end Go.Proofs.YtpignlkojlbhkaaDoor
