/-
  DERIVED. GIVEN WITH THE SEED: THE CARDS: each row of YtbjealobiblabaaDoorRows.lean that lists a variable, with what it lists TIED to the program's text (the seventh form; the later family's looks); each row that meets fmt, with fmt's text TOLD by the authors' own Lean function (tested against real Go, not proved from fmt's source: count such statements apart). THE CARD IS WHAT COUNTS. Prove the row's statement (the work); the ties are given (YtbjealobiblabaaDoorTie.lean); close each card by the builder's one call (the guide's Derived/Test/ToyasCard.lean, 'card_holds'). Laid BY PROGRAM, IN A SANDBOX (cutbox-door.mjs). By AI agents, Wed Nov 11 2026. No macro, syntax, notation, axiom, sorry.
-/
import Derived.Test.YtbjealobiblabaaDoorRows
import GoSem.ClaimSeven
namespace Go.Proofs.YtbjealobiblabaaDoor
namespace Rows

/-- THE TIED CARD OF 'haymowlaw31.ReportLines'. -/
def reportLinesCard : Claim7 := { stood := { row := reportLinesRow, standIns := [], harness := (true, "4b5b1769a70bd14dc7c229c7d4d96857f2e10a158dff3a92d561d051d4ab731c"), looks := false }, kinds := [], alts := [], laidByText := true, laidKinds := [.data, .pinned], laidTests := true, laidLooks := .later }
def ReportLinesCardSaid : Prop := Claim7.holds Tryd.pinned (.plain (OpenSpec.ofChange reportLinesSpec)) reportLinesCard

/-- THE TIED CARD OF 'haymowlaw31.ReportErrors'. -/
def reportErrorsCard : Claim7 := { stood := { row := reportErrorsRow, standIns := [], harness := (true, "4b5b1769a70bd14dc7c229c7d4d96857f2e10a158dff3a92d561d051d4ab731c"), looks := false }, kinds := [], alts := [], laidByText := true, laidKinds := [.data, .pinned], laidTests := true, laidLooks := .later }
def ReportErrorsCardSaid : Prop := Claim7.holds Tryd.pinned (.plain (OpenSpec.ofChange reportErrorsSpec)) reportErrorsCard

/-- THE TIED CARD OF 'haymowlaw31.ReportCensus'. -/
def reportCensusCard : Claim7 := { stood := { row := reportCensusRow, standIns := [], harness := (true, "4b5b1769a70bd14dc7c229c7d4d96857f2e10a158dff3a92d561d051d4ab731c"), looks := false }, kinds := [], alts := [], laidByText := true, laidKinds := [.data, .pinned], laidTests := true, laidLooks := .later }
def ReportCensusCardSaid : Prop := Claim7.holds Tryd.pinned (.plain (OpenSpec.ofChange reportCensusSpec)) reportCensusCard

/-- THE SECOND FORM's CARD OF 'haymowlaw31.ReportLines'. -/
def reportLinesUptoCard : Claim7 := { stood := { row := reportLinesUptoRow, standIns := [], harness := (true, "4b5b1769a70bd14dc7c229c7d4d96857f2e10a158dff3a92d561d051d4ab731c"), looks := false }, kinds := [], alts := [], laidByText := true, laidKinds := [.data, .pinned], laidTests := true, laidLooks := .later }
def ReportLinesUptoCardSaid : Prop := Claim7.holds Tryd.pinned (.plain (OpenSpec.upto reportLinesSpec)) reportLinesUptoCard

/-- THE SECOND FORM's CARD OF 'haymowlaw31.ReportErrors'. -/
def reportErrorsUptoCard : Claim7 := { stood := { row := reportErrorsUptoRow, standIns := [], harness := (true, "4b5b1769a70bd14dc7c229c7d4d96857f2e10a158dff3a92d561d051d4ab731c"), looks := false }, kinds := [], alts := [], laidByText := true, laidKinds := [.data, .pinned], laidTests := true, laidLooks := .later }
def ReportErrorsUptoCardSaid : Prop := Claim7.holds Tryd.pinned (.plain (OpenSpec.upto reportErrorsSpec)) reportErrorsUptoCard

/-- THE SECOND FORM's CARD OF 'haymowlaw31.ReportCensus'. -/
def reportCensusUptoCard : Claim7 := { stood := { row := reportCensusUptoRow, standIns := [], harness := (true, "4b5b1769a70bd14dc7c229c7d4d96857f2e10a158dff3a92d561d051d4ab731c"), looks := false }, kinds := [], alts := [], laidByText := true, laidKinds := [.data, .pinned], laidTests := true, laidLooks := .later }
def ReportCensusUptoCardSaid : Prop := Claim7.holds Tryd.pinned (.plain (OpenSpec.upto reportCensusSpec)) reportCensusUptoCard
end Rows
end Go.Proofs.YtbjealobiblabaaDoor
