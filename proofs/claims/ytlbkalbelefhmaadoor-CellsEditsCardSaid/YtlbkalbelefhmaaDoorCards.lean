/-
  DERIVED. GIVEN WITH THE SEED: THE CARDS: each row of YtlbkalbelefhmaaDoorRows.lean that lists a variable, with what it lists TIED to the program's text (the seventh form; the later family's looks); each row that meets fmt, with fmt's text TOLD by the authors' own Lean function (tested against real Go, not proved from fmt's source: count such statements apart). THE CARD IS WHAT COUNTS. Prove the row's statement (the work); the ties are given (YtlbkalbelefhmaaDoorTie.lean); close each card by the builder's one call (the guide's Derived/Test/ToyasCard.lean, 'card_holds'). Laid BY PROGRAM, IN A SANDBOX (cutbox-door.mjs). By AI agents, Wed Nov 11 2026. No macro, syntax, notation, axiom, sorry.
-/
import Derived.Test.YtlbkalbelefhmaaDoorRows
import GoSem.ClaimSeven
namespace Go.Proofs.YtlbkalbelefhmaaDoor
namespace Rows

/-- THE TIED CARD OF 'foolscaplaw12.CellsEdits'. -/
def cellsEditsCard : Claim7 := { stood := { row := cellsEditsRow, standIns := [], harness := (true, "a7f1f99648ae75d0b6ee31cf1f744ed5f73699fd343a3d4bd18c32f8b9fa112f"), looks := false }, kinds := [], alts := [], laidByText := true, laidKinds := [.data, .pinned], laidTests := true, laidLooks := .later }
def CellsEditsCardSaid : Prop := Claim7.holds Tryd.pinned (.plain (OpenSpec.ofChange cellsEditsSpec)) cellsEditsCard

/-- THE TIED CARD OF 'foolscaplaw12.CellsDrops'. -/
def cellsDropsCard : Claim7 := { stood := { row := cellsDropsRow, standIns := [], harness := (true, "a7f1f99648ae75d0b6ee31cf1f744ed5f73699fd343a3d4bd18c32f8b9fa112f"), looks := false }, kinds := [], alts := [], laidByText := true, laidKinds := [.data, .pinned], laidTests := true, laidLooks := .later }
def CellsDropsCardSaid : Prop := Claim7.holds Tryd.pinned (.plain (OpenSpec.ofChange cellsDropsSpec)) cellsDropsCard

/-- THE TIED CARD OF 'foolscaplaw12.CellsPlaces'. -/
def cellsPlacesCard : Claim7 := { stood := { row := cellsPlacesRow, standIns := [], harness := (true, "a7f1f99648ae75d0b6ee31cf1f744ed5f73699fd343a3d4bd18c32f8b9fa112f"), looks := false }, kinds := [], alts := [], laidByText := true, laidKinds := [.data, .pinned], laidTests := true, laidLooks := .later }
def CellsPlacesCardSaid : Prop := Claim7.holds Tryd.pinned (.plain (OpenSpec.ofChange cellsPlacesSpec)) cellsPlacesCard

/-- THE TIED CARD OF 'foolscaplaw16.CaretStays'. -/
def caretStaysCard : Claim7 := { stood := { row := caretStaysRow, standIns := [], harness := (true, "a7f1f99648ae75d0b6ee31cf1f744ed5f73699fd343a3d4bd18c32f8b9fa112f"), looks := false }, kinds := [], alts := [], laidByText := true, laidKinds := [.data, .pinned], laidTests := true, laidLooks := .later }
def CaretStaysCardSaid : Prop := Claim7.holds Tryd.pinned (.plain (OpenSpec.ofChange caretStaysSpec)) caretStaysCard

/-- THE TIED CARD OF 'foolscaplaw16.CaretTypes'. -/
def caretTypesCard : Claim7 := { stood := { row := caretTypesRow, standIns := [], harness := (true, "a7f1f99648ae75d0b6ee31cf1f744ed5f73699fd343a3d4bd18c32f8b9fa112f"), looks := false }, kinds := [], alts := [], laidByText := true, laidKinds := [.data, .pinned], laidTests := true, laidLooks := .later }
def CaretTypesCardSaid : Prop := Claim7.holds Tryd.pinned (.plain (OpenSpec.ofChange caretTypesSpec)) caretTypesCard

/-- THE TIED CARD OF 'foolscaplaw16.CaretShown'. -/
def caretShownCard : Claim7 := { stood := { row := caretShownRow, standIns := [], harness := (true, "a7f1f99648ae75d0b6ee31cf1f744ed5f73699fd343a3d4bd18c32f8b9fa112f"), looks := false }, kinds := [], alts := [], laidByText := true, laidKinds := [.data, .pinned], laidTests := true, laidLooks := .later }
def CaretShownCardSaid : Prop := Claim7.holds Tryd.pinned (.plain (OpenSpec.ofChange caretShownSpec)) caretShownCard

/-- THE SECOND FORM's CARD OF 'foolscaplaw12.CellsEdits'. -/
def cellsEditsUptoCard : Claim7 := { stood := { row := cellsEditsUptoRow, standIns := [], harness := (true, "a7f1f99648ae75d0b6ee31cf1f744ed5f73699fd343a3d4bd18c32f8b9fa112f"), looks := false }, kinds := [], alts := [], laidByText := true, laidKinds := [.data, .pinned], laidTests := true, laidLooks := .later }
def CellsEditsUptoCardSaid : Prop := Claim7.holds Tryd.pinned (.plain (OpenSpec.upto cellsEditsSpec)) cellsEditsUptoCard

/-- THE SECOND FORM's CARD OF 'foolscaplaw12.CellsDrops'. -/
def cellsDropsUptoCard : Claim7 := { stood := { row := cellsDropsUptoRow, standIns := [], harness := (true, "a7f1f99648ae75d0b6ee31cf1f744ed5f73699fd343a3d4bd18c32f8b9fa112f"), looks := false }, kinds := [], alts := [], laidByText := true, laidKinds := [.data, .pinned], laidTests := true, laidLooks := .later }
def CellsDropsUptoCardSaid : Prop := Claim7.holds Tryd.pinned (.plain (OpenSpec.upto cellsDropsSpec)) cellsDropsUptoCard

/-- THE SECOND FORM's CARD OF 'foolscaplaw12.CellsPlaces'. -/
def cellsPlacesUptoCard : Claim7 := { stood := { row := cellsPlacesUptoRow, standIns := [], harness := (true, "a7f1f99648ae75d0b6ee31cf1f744ed5f73699fd343a3d4bd18c32f8b9fa112f"), looks := false }, kinds := [], alts := [], laidByText := true, laidKinds := [.data, .pinned], laidTests := true, laidLooks := .later }
def CellsPlacesUptoCardSaid : Prop := Claim7.holds Tryd.pinned (.plain (OpenSpec.upto cellsPlacesSpec)) cellsPlacesUptoCard

/-- THE SECOND FORM's CARD OF 'foolscaplaw16.CaretStays'. -/
def caretStaysUptoCard : Claim7 := { stood := { row := caretStaysUptoRow, standIns := [], harness := (true, "a7f1f99648ae75d0b6ee31cf1f744ed5f73699fd343a3d4bd18c32f8b9fa112f"), looks := false }, kinds := [], alts := [], laidByText := true, laidKinds := [.data, .pinned], laidTests := true, laidLooks := .later }
def CaretStaysUptoCardSaid : Prop := Claim7.holds Tryd.pinned (.plain (OpenSpec.upto caretStaysSpec)) caretStaysUptoCard

/-- THE SECOND FORM's CARD OF 'foolscaplaw16.CaretTypes'. -/
def caretTypesUptoCard : Claim7 := { stood := { row := caretTypesUptoRow, standIns := [], harness := (true, "a7f1f99648ae75d0b6ee31cf1f744ed5f73699fd343a3d4bd18c32f8b9fa112f"), looks := false }, kinds := [], alts := [], laidByText := true, laidKinds := [.data, .pinned], laidTests := true, laidLooks := .later }
def CaretTypesUptoCardSaid : Prop := Claim7.holds Tryd.pinned (.plain (OpenSpec.upto caretTypesSpec)) caretTypesUptoCard

/-- THE SECOND FORM's CARD OF 'foolscaplaw16.CaretShown'. -/
def caretShownUptoCard : Claim7 := { stood := { row := caretShownUptoRow, standIns := [], harness := (true, "a7f1f99648ae75d0b6ee31cf1f744ed5f73699fd343a3d4bd18c32f8b9fa112f"), looks := false }, kinds := [], alts := [], laidByText := true, laidKinds := [.data, .pinned], laidTests := true, laidLooks := .later }
def CaretShownUptoCardSaid : Prop := Claim7.holds Tryd.pinned (.plain (OpenSpec.upto caretShownSpec)) caretShownUptoCard
end Rows
end Go.Proofs.YtlbkalbelefhmaaDoor
