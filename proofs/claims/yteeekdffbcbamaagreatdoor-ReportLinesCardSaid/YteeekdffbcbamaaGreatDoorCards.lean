/-
  DERIVED. GIVEN WITH THE SEED: THE CARDS: each row of YteeekdffbcbamaaGreatDoorRows.lean that lists a variable, with what it lists TIED to the program's text (the seventh form; the later family's looks); each row that meets fmt, with fmt's text TOLD by the authors' own Lean function (tested against real Go, not proved from fmt's source: count such statements apart). THE CARD IS WHAT COUNTS. Prove the row's statement (the work); the ties are given (YteeekdffbcbamaaGreatDoorTie.lean); close each card by the builder's one call (the guide's Derived/Test/ToyasCard.lean, 'card_holds'). Laid BY PROGRAM, IN A SANDBOX (cutbox-door.mjs). By AI agents, Wed Nov 11 2026. No macro, syntax, notation, axiom, sorry.
-/
import Derived.Test.YteeekdffbcbamaaGreatDoorRows
import GoSem.ClaimSeven
namespace Go.Proofs.YteeekdffbcbamaaGreatDoor
namespace Rows

/-- THE TIED CARD OF 'skyfixlaw41.ReportSplit'. -/
def reportSplitCard : Claim7 := { stood := { row := reportSplitRow, standIns := [], harness := (true, "858dbc15035224e774b8f3b1dc30a58a4cf74d649e0dff3dff63d326204288b1"), looks := true }, kinds := [], alts := [], laidByText := true, laidKinds := [.data, .data, .data, .data, .sentinel, .sentinel, .pinned], laidTests := true, laidLooks := .later }
def ReportSplitCardSaid : Prop := Claim7.holds Tryz.pinned (.plain (OpenSpec.ofChange reportSplitSpec)) reportSplitCard

/-- THE TIED CARD OF 'skyfixlaw41.ReportParses'. -/
def reportParsesCard : Claim7 := { stood := { row := reportParsesRow, standIns := [], harness := (true, "858dbc15035224e774b8f3b1dc30a58a4cf74d649e0dff3dff63d326204288b1"), looks := true }, kinds := [], alts := [], laidByText := true, laidKinds := [.data, .data, .data, .data, .sentinel, .sentinel, .pinned], laidTests := true, laidLooks := .later }
def ReportParsesCardSaid : Prop := Claim7.holds Tryz.pinned (.plain (OpenSpec.ofChange reportParsesSpec)) reportParsesCard

/-- THE TIED CARD OF 'skyfixlaw41.ReportLines'. -/
def reportLinesCard : Claim7 := { stood := { row := reportLinesRow, standIns := [], harness := (true, "858dbc15035224e774b8f3b1dc30a58a4cf74d649e0dff3dff63d326204288b1"), looks := true }, kinds := [], alts := [], laidByText := true, laidKinds := [.data, .data, .data, .data, .sentinel, .sentinel, .pinned], laidTests := true, laidLooks := .later }
def ReportLinesCardSaid : Prop := Claim7.holds Tryz.pinned (.plain (OpenSpec.ofChange reportLinesSpec)) reportLinesCard

/-- THE TIED CARD OF 'skyfixlaw41.ReportSplits'. -/
def reportSplitsCard : Claim7 := { stood := { row := reportSplitsRow, standIns := [], harness := (true, "858dbc15035224e774b8f3b1dc30a58a4cf74d649e0dff3dff63d326204288b1"), looks := true }, kinds := [], alts := [], laidByText := true, laidKinds := [.data, .data, .data, .data, .sentinel, .sentinel, .pinned], laidTests := true, laidLooks := .later }
def ReportSplitsCardSaid : Prop := Claim7.holds Tryz.pinned (.plain (OpenSpec.ofChange reportSplitsSpec)) reportSplitsCard

/-- THE SECOND FORM's CARD OF 'skyfixlaw41.ReportSplit'. -/
def reportSplitUptoCard : Claim7 := { stood := { row := reportSplitUptoRow, standIns := [], harness := (true, "858dbc15035224e774b8f3b1dc30a58a4cf74d649e0dff3dff63d326204288b1"), looks := true }, kinds := [], alts := [], laidByText := true, laidKinds := [.data, .data, .data, .data, .sentinel, .sentinel, .pinned], laidTests := true, laidLooks := .later }
def ReportSplitUptoCardSaid : Prop := Claim7.holds Tryz.pinned (.plain (OpenSpec.upto reportSplitSpec)) reportSplitUptoCard

/-- THE SECOND FORM's CARD OF 'skyfixlaw41.ReportParses'. -/
def reportParsesUptoCard : Claim7 := { stood := { row := reportParsesUptoRow, standIns := [], harness := (true, "858dbc15035224e774b8f3b1dc30a58a4cf74d649e0dff3dff63d326204288b1"), looks := true }, kinds := [], alts := [], laidByText := true, laidKinds := [.data, .data, .data, .data, .sentinel, .sentinel, .pinned], laidTests := true, laidLooks := .later }
def ReportParsesUptoCardSaid : Prop := Claim7.holds Tryz.pinned (.plain (OpenSpec.upto reportParsesSpec)) reportParsesUptoCard

/-- THE SECOND FORM's CARD OF 'skyfixlaw41.ReportLines'. -/
def reportLinesUptoCard : Claim7 := { stood := { row := reportLinesUptoRow, standIns := [], harness := (true, "858dbc15035224e774b8f3b1dc30a58a4cf74d649e0dff3dff63d326204288b1"), looks := true }, kinds := [], alts := [], laidByText := true, laidKinds := [.data, .data, .data, .data, .sentinel, .sentinel, .pinned], laidTests := true, laidLooks := .later }
def ReportLinesUptoCardSaid : Prop := Claim7.holds Tryz.pinned (.plain (OpenSpec.upto reportLinesSpec)) reportLinesUptoCard

/-- THE SECOND FORM's CARD OF 'skyfixlaw41.ReportSplits'. -/
def reportSplitsUptoCard : Claim7 := { stood := { row := reportSplitsUptoRow, standIns := [], harness := (true, "858dbc15035224e774b8f3b1dc30a58a4cf74d649e0dff3dff63d326204288b1"), looks := true }, kinds := [], alts := [], laidByText := true, laidKinds := [.data, .data, .data, .data, .sentinel, .sentinel, .pinned], laidTests := true, laidLooks := .later }
def ReportSplitsUptoCardSaid : Prop := Claim7.holds Tryz.pinned (.plain (OpenSpec.upto reportSplitsSpec)) reportSplitsUptoCard
end Rows
end Go.Proofs.YteeekdffbcbamaaGreatDoor
