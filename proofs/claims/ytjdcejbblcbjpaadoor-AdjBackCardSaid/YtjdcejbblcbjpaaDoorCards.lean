/-
  DERIVED. GIVEN WITH THE SEED: THE CARDS: each row of YtjdcejbblcbjpaaDoorRows.lean that lists a variable, with what it lists TIED to the program's text (the seventh form; the later family's looks); each row that meets fmt, with fmt's text TOLD by the authors' own Lean function (tested against real Go, not proved from fmt's source: count such statements apart). THE CARD IS WHAT COUNTS. Prove the row's statement (the work); the ties are given (YtjdcejbblcbjpaaDoorTie.lean); close each card by the builder's one call (the guide's Derived/Test/ToyasCard.lean, 'card_holds'). Laid BY PROGRAM, IN A SANDBOX (cutbox-door.mjs). By AI agents, Wed Nov 11 2026. No macro, syntax, notation, axiom, sorry.
-/
import Derived.Test.YtjdcejbblcbjpaaDoorRows
import GoSem.ClaimSeven
namespace Go.Proofs.YtjdcejbblcbjpaaDoor
namespace Rows

/-- THE TIED CARD OF 'creellaw09.AdjPuts'. -/
def adjPutsCard : Claim7 := { stood := { row := adjPutsRow, standIns := [], harness := (true, "5c6db0a385023708b7f6b004e7bc7c8a3a78c8610cb81f0f870fe2650fa59b53"), looks := false }, kinds := [], alts := [], laidByText := true, laidKinds := [.data, .data, .data, .data, .pinned], laidTests := true, laidLooks := .later }
def AdjPutsCardSaid : Prop := Claim7.holds Tryd.pinned (.plain (OpenSpec.ofChange adjPutsSpec)) adjPutsCard

/-- THE TIED CARD OF 'creellaw09.AdjBack'. -/
def adjBackCard : Claim7 := { stood := { row := adjBackRow, standIns := [], harness := (true, "5c6db0a385023708b7f6b004e7bc7c8a3a78c8610cb81f0f870fe2650fa59b53"), looks := false }, kinds := [], alts := [], laidByText := true, laidKinds := [.data, .data, .data, .data, .pinned], laidTests := true, laidLooks := .later }
def AdjBackCardSaid : Prop := Claim7.holds Tryd.pinned (.plain (OpenSpec.ofChange adjBackSpec)) adjBackCard

/-- THE SECOND FORM's CARD OF 'creellaw09.AdjPuts'. -/
def adjPutsUptoCard : Claim7 := { stood := { row := adjPutsUptoRow, standIns := [], harness := (true, "5c6db0a385023708b7f6b004e7bc7c8a3a78c8610cb81f0f870fe2650fa59b53"), looks := false }, kinds := [], alts := [], laidByText := true, laidKinds := [.data, .data, .data, .data, .pinned], laidTests := true, laidLooks := .later }
def AdjPutsUptoCardSaid : Prop := Claim7.holds Tryd.pinned (.plain (OpenSpec.upto adjPutsSpec)) adjPutsUptoCard

/-- THE SECOND FORM's CARD OF 'creellaw09.AdjBack'. -/
def adjBackUptoCard : Claim7 := { stood := { row := adjBackUptoRow, standIns := [], harness := (true, "5c6db0a385023708b7f6b004e7bc7c8a3a78c8610cb81f0f870fe2650fa59b53"), looks := false }, kinds := [], alts := [], laidByText := true, laidKinds := [.data, .data, .data, .data, .pinned], laidTests := true, laidLooks := .later }
def AdjBackUptoCardSaid : Prop := Claim7.holds Tryd.pinned (.plain (OpenSpec.upto adjBackSpec)) adjBackUptoCard
end Rows
end Go.Proofs.YtjdcejbblcbjpaaDoor
