/-
  DERIVED. GIVEN WITH THE SEED: THE CARDS: each row of YtfppbkpdpapemaaDoorRows.lean that lists a variable, with what it lists TIED to the program's text (the seventh form; the later family's looks); each row that meets fmt, with fmt's text TOLD by the authors' own Lean function (tested against real Go, not proved from fmt's source: count such statements apart). THE CARD IS WHAT COUNTS. Prove the row's statement (the work); the ties are given (YtfppbkpdpapemaaDoorTie.lean); close each card by the builder's one call (the guide's Derived/Test/ToyasCard.lean, 'card_holds'). Laid BY PROGRAM, IN A SANDBOX (cutbox-door.mjs). By AI agents, Wed Nov 11 2026. No macro, syntax, notation, axiom, sorry.
-/
import Derived.Test.YtfppbkpdpapemaaDoorRows
import GoSem.ClaimSeven
namespace Go.Proofs.YtfppbkpdpapemaaDoor
namespace Rows

/-- THE TIED CARD OF 'creellaw20.SheetNames'. -/
def sheetNamesCard : Claim7 := { stood := { row := sheetNamesRow, standIns := [], harness := (true, "78cebf4c1a8f578fc2632d4ba12c587790312ff4911ca9b7e8cf187e8cd6933f"), looks := false }, kinds := [], alts := [], laidByText := true, laidKinds := [.data, .data, .data], laidTests := true, laidLooks := .later }
def SheetNamesCardSaid : Prop := Claim7.holds Tryd.pinned (.plain (OpenSpec.ofChange sheetNamesSpec)) sheetNamesCard

/-- THE TIED CARD OF 'creellaw20.SheetNotes'. -/
def sheetNotesCard : Claim7 := { stood := { row := sheetNotesRow, standIns := [], harness := (true, "78cebf4c1a8f578fc2632d4ba12c587790312ff4911ca9b7e8cf187e8cd6933f"), looks := false }, kinds := [], alts := [], laidByText := true, laidKinds := [.data, .data, .data], laidTests := true, laidLooks := .later }
def SheetNotesCardSaid : Prop := Claim7.holds Tryd.pinned (.plain (OpenSpec.ofChange sheetNotesSpec)) sheetNotesCard

/-- THE TIED CARD OF 'creellaw20.SheetPuts'. -/
def sheetPutsCard : Claim7 := { stood := { row := sheetPutsRow, standIns := [], harness := (true, "78cebf4c1a8f578fc2632d4ba12c587790312ff4911ca9b7e8cf187e8cd6933f"), looks := false }, kinds := [], alts := [], laidByText := true, laidKinds := [.data, .data, .data], laidTests := true, laidLooks := .later }
def SheetPutsCardSaid : Prop := Claim7.holds Tryd.pinned (.plain (OpenSpec.ofChange sheetPutsSpec)) sheetPutsCard

/-- THE TIED CARD OF 'creellaw20.SheetTakes'. -/
def sheetTakesCard : Claim7 := { stood := { row := sheetTakesRow, standIns := [], harness := (true, "78cebf4c1a8f578fc2632d4ba12c587790312ff4911ca9b7e8cf187e8cd6933f"), looks := false }, kinds := [], alts := [], laidByText := true, laidKinds := [.data, .data, .data], laidTests := true, laidLooks := .later }
def SheetTakesCardSaid : Prop := Claim7.holds Tryd.pinned (.plain (OpenSpec.ofChange sheetTakesSpec)) sheetTakesCard

/-- THE TIED CARD OF 'creellaw20.SheetBack'. -/
def sheetBackCard : Claim7 := { stood := { row := sheetBackRow, standIns := [], harness := (true, "78cebf4c1a8f578fc2632d4ba12c587790312ff4911ca9b7e8cf187e8cd6933f"), looks := false }, kinds := [], alts := [], laidByText := true, laidKinds := [.data, .data, .data], laidTests := true, laidLooks := .later }
def SheetBackCardSaid : Prop := Claim7.holds Tryd.pinned (.plain (OpenSpec.ofChange sheetBackSpec)) sheetBackCard

/-- THE TIED CARD OF 'creellaw20.SheetBursts'. -/
def sheetBurstsCard : Claim7 := { stood := { row := sheetBurstsRow, standIns := [], harness := (true, "78cebf4c1a8f578fc2632d4ba12c587790312ff4911ca9b7e8cf187e8cd6933f"), looks := false }, kinds := [], alts := [], laidByText := true, laidKinds := [.data, .data, .data], laidTests := true, laidLooks := .later }
def SheetBurstsCardSaid : Prop := Claim7.holds Tryd.pinned (.plain (OpenSpec.ofChange sheetBurstsSpec)) sheetBurstsCard

/-- THE SECOND FORM's CARD OF 'creellaw20.SheetNames'. -/
def sheetNamesUptoCard : Claim7 := { stood := { row := sheetNamesUptoRow, standIns := [], harness := (true, "78cebf4c1a8f578fc2632d4ba12c587790312ff4911ca9b7e8cf187e8cd6933f"), looks := false }, kinds := [], alts := [], laidByText := true, laidKinds := [.data, .data, .data], laidTests := true, laidLooks := .later }
def SheetNamesUptoCardSaid : Prop := Claim7.holds Tryd.pinned (.plain (OpenSpec.upto sheetNamesSpec)) sheetNamesUptoCard

/-- THE SECOND FORM's CARD OF 'creellaw20.SheetNotes'. -/
def sheetNotesUptoCard : Claim7 := { stood := { row := sheetNotesUptoRow, standIns := [], harness := (true, "78cebf4c1a8f578fc2632d4ba12c587790312ff4911ca9b7e8cf187e8cd6933f"), looks := false }, kinds := [], alts := [], laidByText := true, laidKinds := [.data, .data, .data], laidTests := true, laidLooks := .later }
def SheetNotesUptoCardSaid : Prop := Claim7.holds Tryd.pinned (.plain (OpenSpec.upto sheetNotesSpec)) sheetNotesUptoCard

/-- THE SECOND FORM's CARD OF 'creellaw20.SheetPuts'. -/
def sheetPutsUptoCard : Claim7 := { stood := { row := sheetPutsUptoRow, standIns := [], harness := (true, "78cebf4c1a8f578fc2632d4ba12c587790312ff4911ca9b7e8cf187e8cd6933f"), looks := false }, kinds := [], alts := [], laidByText := true, laidKinds := [.data, .data, .data], laidTests := true, laidLooks := .later }
def SheetPutsUptoCardSaid : Prop := Claim7.holds Tryd.pinned (.plain (OpenSpec.upto sheetPutsSpec)) sheetPutsUptoCard

/-- THE SECOND FORM's CARD OF 'creellaw20.SheetTakes'. -/
def sheetTakesUptoCard : Claim7 := { stood := { row := sheetTakesUptoRow, standIns := [], harness := (true, "78cebf4c1a8f578fc2632d4ba12c587790312ff4911ca9b7e8cf187e8cd6933f"), looks := false }, kinds := [], alts := [], laidByText := true, laidKinds := [.data, .data, .data], laidTests := true, laidLooks := .later }
def SheetTakesUptoCardSaid : Prop := Claim7.holds Tryd.pinned (.plain (OpenSpec.upto sheetTakesSpec)) sheetTakesUptoCard

/-- THE SECOND FORM's CARD OF 'creellaw20.SheetBack'. -/
def sheetBackUptoCard : Claim7 := { stood := { row := sheetBackUptoRow, standIns := [], harness := (true, "78cebf4c1a8f578fc2632d4ba12c587790312ff4911ca9b7e8cf187e8cd6933f"), looks := false }, kinds := [], alts := [], laidByText := true, laidKinds := [.data, .data, .data], laidTests := true, laidLooks := .later }
def SheetBackUptoCardSaid : Prop := Claim7.holds Tryd.pinned (.plain (OpenSpec.upto sheetBackSpec)) sheetBackUptoCard

/-- THE SECOND FORM's CARD OF 'creellaw20.SheetBursts'. -/
def sheetBurstsUptoCard : Claim7 := { stood := { row := sheetBurstsUptoRow, standIns := [], harness := (true, "78cebf4c1a8f578fc2632d4ba12c587790312ff4911ca9b7e8cf187e8cd6933f"), looks := false }, kinds := [], alts := [], laidByText := true, laidKinds := [.data, .data, .data], laidTests := true, laidLooks := .later }
def SheetBurstsUptoCardSaid : Prop := Claim7.holds Tryd.pinned (.plain (OpenSpec.upto sheetBurstsSpec)) sheetBurstsUptoCard
end Rows
end Go.Proofs.YtfppbkpdpapemaaDoor
