/-
  DERIVED. GIVEN WITH THE SEED: THE CARDS: each row of YtbjealobiblabaaGreatDoorRows.lean that lists a variable, with what it lists TIED to the program's text (the seventh form; the later family's looks); each row that meets fmt, with fmt's text TOLD by the authors' own Lean function (tested against real Go, not proved from fmt's source: count such statements apart). THE CARD IS WHAT COUNTS. Prove the row's statement (the work); the ties are given (YtbjealobiblabaaGreatDoorTie.lean); close each card by the builder's one call (the guide's Derived/Test/ToyasCard.lean, 'card_holds'). Laid BY PROGRAM, IN A SANDBOX (cutbox-door.mjs). By AI agents, Wed Nov 11 2026. No macro, syntax, notation, axiom, sorry.
-/
import Derived.Test.YtbjealobiblabaaGreatDoorRows
import GoSem.ClaimSeven
namespace Go.Proofs.YtbjealobiblabaaGreatDoor
namespace Rows

/-- THE TIED CARD OF 'haymowlaw31.ReportSites'. -/
def reportSitesCard : Claim7 := { stood := { row := reportSitesRow, standIns := [], harness := (true, "3d87e56f9e3b5d0bea2b747bdb0fa2bf85b26b219ebc886a171dfddeb76d83af"), looks := false }, kinds := [], alts := [], laidByText := true, laidKinds := [.data, .pinned], laidTests := true, laidLooks := .later }
def ReportSitesCardSaid : Prop := Claim7.holds Tryz.pinned (.plain (OpenSpec.ofChange reportSitesSpec)) reportSitesCard

/-- THE SECOND FORM's CARD OF 'haymowlaw31.ReportSites'. -/
def reportSitesUptoCard : Claim7 := { stood := { row := reportSitesUptoRow, standIns := [], harness := (true, "3d87e56f9e3b5d0bea2b747bdb0fa2bf85b26b219ebc886a171dfddeb76d83af"), looks := false }, kinds := [], alts := [], laidByText := true, laidKinds := [.data, .pinned], laidTests := true, laidLooks := .later }
def ReportSitesUptoCardSaid : Prop := Claim7.holds Tryz.pinned (.plain (OpenSpec.upto reportSitesSpec)) reportSitesUptoCard
end Rows
end Go.Proofs.YtbjealobiblabaaGreatDoor
