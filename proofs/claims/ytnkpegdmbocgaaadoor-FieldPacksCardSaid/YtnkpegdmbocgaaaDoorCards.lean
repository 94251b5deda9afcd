/-
  DERIVED. GIVEN WITH THE SEED: THE CARDS: each row of YtnkpegdmbocgaaaDoorRows.lean that lists a variable, with what it lists TIED to the program's text (the seventh form; the later family's looks); each row that meets fmt, with fmt's text TOLD by the authors' own Lean function (tested against real Go, not proved from fmt's source: count such statements apart). THE CARD IS WHAT COUNTS. Prove the row's statement (the work); the ties are given (YtnkpegdmbocgaaaDoorTie.lean); close each card by the builder's one call (the guide's Derived/Test/ToyasCard.lean, 'card_holds'). Laid BY PROGRAM, IN A SANDBOX (cutbox-door.mjs). By AI agents, Wed Nov 11 2026. No macro, syntax, notation, axiom, sorry.
-/
import Derived.Test.YtnkpegdmbocgaaaDoorRows
import GoSem.ClaimSeven
namespace Go.Proofs.YtnkpegdmbocgaaaDoor
namespace Rows

/-- THE TIED CARD OF 'haymowlaw02.FieldPlaces'. -/
def fieldPlacesCard : Claim7 := { stood := { row := fieldPlacesRow, standIns := [], harness := (true, "1aa8895dbdcc7b8fa130098f3bca7f6749d2dd39c44ce41953a4a50460cb8707"), looks := false }, kinds := [], alts := [], laidByText := true, laidKinds := [.data], laidTests := true, laidLooks := .later }
def FieldPlacesCardSaid : Prop := Claim7.holds Tryd.pinned (.plain (OpenSpec.ofChange fieldPlacesSpec)) fieldPlacesCard

/-- THE TIED CARD OF 'haymowlaw02.FieldWords'. -/
def fieldWordsCard : Claim7 := { stood := { row := fieldWordsRow, standIns := [], harness := (true, "1aa8895dbdcc7b8fa130098f3bca7f6749d2dd39c44ce41953a4a50460cb8707"), looks := false }, kinds := [], alts := [], laidByText := true, laidKinds := [.data], laidTests := true, laidLooks := .later }
def FieldWordsCardSaid : Prop := Claim7.holds Tryd.pinned (.plain (OpenSpec.ofChange fieldWordsSpec)) fieldWordsCard

/-- THE TIED CARD OF 'haymowlaw02.FieldKeeps'. -/
def fieldKeepsCard : Claim7 := { stood := { row := fieldKeepsRow, standIns := [], harness := (true, "1aa8895dbdcc7b8fa130098f3bca7f6749d2dd39c44ce41953a4a50460cb8707"), looks := false }, kinds := [], alts := [], laidByText := true, laidKinds := [.data], laidTests := true, laidLooks := .later }
def FieldKeepsCardSaid : Prop := Claim7.holds Tryd.pinned (.plain (OpenSpec.ofChange fieldKeepsSpec)) fieldKeepsCard

/-- THE TIED CARD OF 'haymowlaw02.FieldPacks'. -/
def fieldPacksCard : Claim7 := { stood := { row := fieldPacksRow, standIns := [], harness := (true, "1aa8895dbdcc7b8fa130098f3bca7f6749d2dd39c44ce41953a4a50460cb8707"), looks := false }, kinds := [], alts := [], laidByText := true, laidKinds := [.data], laidTests := true, laidLooks := .later }
def FieldPacksCardSaid : Prop := Claim7.holds Tryd.pinned (.plain (OpenSpec.ofChange fieldPacksSpec)) fieldPacksCard

/-- THE SECOND FORM's CARD OF 'haymowlaw02.FieldPlaces'. -/
def fieldPlacesUptoCard : Claim7 := { stood := { row := fieldPlacesUptoRow, standIns := [], harness := (true, "1aa8895dbdcc7b8fa130098f3bca7f6749d2dd39c44ce41953a4a50460cb8707"), looks := false }, kinds := [], alts := [], laidByText := true, laidKinds := [.data], laidTests := true, laidLooks := .later }
def FieldPlacesUptoCardSaid : Prop := Claim7.holds Tryd.pinned (.plain (OpenSpec.upto fieldPlacesSpec)) fieldPlacesUptoCard

/-- THE SECOND FORM's CARD OF 'haymowlaw02.FieldWords'. -/
def fieldWordsUptoCard : Claim7 := { stood := { row := fieldWordsUptoRow, standIns := [], harness := (true, "1aa8895dbdcc7b8fa130098f3bca7f6749d2dd39c44ce41953a4a50460cb8707"), looks := false }, kinds := [], alts := [], laidByText := true, laidKinds := [.data], laidTests := true, laidLooks := .later }
def FieldWordsUptoCardSaid : Prop := Claim7.holds Tryd.pinned (.plain (OpenSpec.upto fieldWordsSpec)) fieldWordsUptoCard

/-- THE SECOND FORM's CARD OF 'haymowlaw02.FieldKeeps'. -/
def fieldKeepsUptoCard : Claim7 := { stood := { row := fieldKeepsUptoRow, standIns := [], harness := (true, "1aa8895dbdcc7b8fa130098f3bca7f6749d2dd39c44ce41953a4a50460cb8707"), looks := false }, kinds := [], alts := [], laidByText := true, laidKinds := [.data], laidTests := true, laidLooks := .later }
def FieldKeepsUptoCardSaid : Prop := Claim7.holds Tryd.pinned (.plain (OpenSpec.upto fieldKeepsSpec)) fieldKeepsUptoCard

/-- THE SECOND FORM's CARD OF 'haymowlaw02.FieldPacks'. -/
def fieldPacksUptoCard : Claim7 := { stood := { row := fieldPacksUptoRow, standIns := [], harness := (true, "1aa8895dbdcc7b8fa130098f3bca7f6749d2dd39c44ce41953a4a50460cb8707"), looks := false }, kinds := [], alts := [], laidByText := true, laidKinds := [.data], laidTests := true, laidLooks := .later }
def FieldPacksUptoCardSaid : Prop := Claim7.holds Tryd.pinned (.plain (OpenSpec.upto fieldPacksSpec)) fieldPacksUptoCard
end Rows
end Go.Proofs.YtnkpegdmbocgaaaDoor
