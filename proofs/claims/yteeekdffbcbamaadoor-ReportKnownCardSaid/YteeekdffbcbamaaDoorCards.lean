/-
  DERIVED. GIVEN WITH THE SEED: THE CARDS: each row of YteeekdffbcbamaaDoorRows.lean that lists a variable, with what it lists TIED to the program's text (the seventh form; the later family's looks); each row that meets fmt, with fmt's text TOLD by the authors' own Lean function (tested against real Go, not proved from fmt's source: count such statements apart). THE CARD IS WHAT COUNTS. Prove the row's statement (the work); the ties are given (YteeekdffbcbamaaDoorTie.lean); close each card by the builder's one call (the guide's Derived/Test/ToyasCard.lean, 'card_holds'). Laid BY PROGRAM, IN A SANDBOX (cutbox-door.mjs). By AI agents, Wed Nov 11 2026. No macro, syntax, notation, axiom, sorry.
-/
import Derived.Test.YteeekdffbcbamaaDoorRows
import GoSem.ClaimSeven
namespace Go.Proofs.YteeekdffbcbamaaDoor
namespace Rows

/-- THE TIED CARD OF 'skyfixlaw41.ReportKnown'. -/
def reportKnownCard : Claim7 := { stood := { row := reportKnownRow, standIns := [], harness := (true, "5f00b897b8eb2b59e7f6055ba6cc96bcbd20dce1c81b01e66f3dbd4af09a46ce"), looks := true }, kinds := [], alts := [], laidByText := true, laidKinds := [.data, .data, .data, .data, .sentinel, .sentinel, .pinned], laidTests := true, laidLooks := .later }
def ReportKnownCardSaid : Prop := Claim7.holds Tryd.pinned (.plain (OpenSpec.ofChange reportKnownSpec)) reportKnownCard

/-- THE TIED CARD OF 'skyfixlaw41.ReportBack'. -/
def reportBackCard : Claim7 := { stood := { row := reportBackRow, standIns := [], harness := (true, "5f00b897b8eb2b59e7f6055ba6cc96bcbd20dce1c81b01e66f3dbd4af09a46ce"), looks := true }, kinds := [], alts := [], laidByText := true, laidKinds := [.data, .data, .data, .data, .sentinel, .sentinel, .pinned], laidTests := true, laidLooks := .later }
def ReportBackCardSaid : Prop := Claim7.holds Tryd.pinned (.plain (OpenSpec.ofChange reportBackSpec)) reportBackCard

/-- THE SECOND FORM's CARD OF 'skyfixlaw41.ReportKnown'. -/
def reportKnownUptoCard : Claim7 := { stood := { row := reportKnownUptoRow, standIns := [], harness := (true, "5f00b897b8eb2b59e7f6055ba6cc96bcbd20dce1c81b01e66f3dbd4af09a46ce"), looks := true }, kinds := [], alts := [], laidByText := true, laidKinds := [.data, .data, .data, .data, .sentinel, .sentinel, .pinned], laidTests := true, laidLooks := .later }
def ReportKnownUptoCardSaid : Prop := Claim7.holds Tryd.pinned (.plain (OpenSpec.upto reportKnownSpec)) reportKnownUptoCard

/-- THE SECOND FORM's CARD OF 'skyfixlaw41.ReportBack'. -/
def reportBackUptoCard : Claim7 := { stood := { row := reportBackUptoRow, standIns := [], harness := (true, "5f00b897b8eb2b59e7f6055ba6cc96bcbd20dce1c81b01e66f3dbd4af09a46ce"), looks := true }, kinds := [], alts := [], laidByText := true, laidKinds := [.data, .data, .data, .data, .sentinel, .sentinel, .pinned], laidTests := true, laidLooks := .later }
def ReportBackUptoCardSaid : Prop := Claim7.holds Tryd.pinned (.plain (OpenSpec.upto reportBackSpec)) reportBackUptoCard
end Rows
end Go.Proofs.YteeekdffbcbamaaDoor
