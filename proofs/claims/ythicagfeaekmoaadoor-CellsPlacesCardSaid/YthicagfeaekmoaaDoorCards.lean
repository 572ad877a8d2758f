/-
  DERIVED. GIVEN WITH THE SEED: THE CARDS: each row of YthicagfeaekmoaaDoorRows.lean that lists a variable, with what it lists TIED to the program's text (the seventh form; the later family's looks); each row that meets fmt, with fmt's text TOLD by the authors' own Lean function (tested against real Go, not proved from fmt's source: count such statements apart). THE CARD IS WHAT COUNTS. Prove the row's statement (the work); the ties are given (YthicagfeaekmoaaDoorTie.lean); close each card by the builder's one call (the guide's Derived/Test/ToyasCard.lean, 'card_holds'). Laid BY PROGRAM, IN A SANDBOX (cutbox-door.mjs). By AI agents, Wed Nov 11 2026. No macro, syntax, notation, axiom, sorry.
-/
import Derived.Test.YthicagfeaekmoaaDoorRows
import GoSem.ClaimSeven
namespace Go.Proofs.YthicagfeaekmoaaDoor
namespace Rows

/-- THE TIED CARD OF 'foolscaplaw12.CellsDrops'. -/
def cellsDropsCard : Claim7 := { stood := { row := cellsDropsRow, standIns := [], harness := (true, "b38591ee1b9e7d89e01abb2baec6828658d0dbc6ef30a921a99d3425c64ee8a2"), looks := false }, kinds := [], alts := [], laidByText := true, laidKinds := [.data, .pinned], laidTests := true, laidLooks := .later }
def CellsDropsCardSaid : Prop := Claim7.holds Tryd.pinned (.plain (OpenSpec.ofChange cellsDropsSpec)) cellsDropsCard

/-- THE TIED CARD OF 'foolscaplaw12.CellsPlaces'. -/
def cellsPlacesCard : Claim7 := { stood := { row := cellsPlacesRow, standIns := [], harness := (true, "b38591ee1b9e7d89e01abb2baec6828658d0dbc6ef30a921a99d3425c64ee8a2"), looks := false }, kinds := [], alts := [], laidByText := true, laidKinds := [.data, .pinned], laidTests := true, laidLooks := .later }
def CellsPlacesCardSaid : Prop := Claim7.holds Tryd.pinned (.plain (OpenSpec.ofChange cellsPlacesSpec)) cellsPlacesCard

/-- THE SECOND FORM's CARD OF 'foolscaplaw12.CellsDrops'. -/
def cellsDropsUptoCard : Claim7 := { stood := { row := cellsDropsUptoRow, standIns := [], harness := (true, "b38591ee1b9e7d89e01abb2baec6828658d0dbc6ef30a921a99d3425c64ee8a2"), looks := false }, kinds := [], alts := [], laidByText := true, laidKinds := [.data, .pinned], laidTests := true, laidLooks := .later }
def CellsDropsUptoCardSaid : Prop := Claim7.holds Tryd.pinned (.plain (OpenSpec.upto cellsDropsSpec)) cellsDropsUptoCard

/-- THE SECOND FORM's CARD OF 'foolscaplaw12.CellsPlaces'. -/
def cellsPlacesUptoCard : Claim7 := { stood := { row := cellsPlacesUptoRow, standIns := [], harness := (true, "b38591ee1b9e7d89e01abb2baec6828658d0dbc6ef30a921a99d3425c64ee8a2"), looks := false }, kinds := [], alts := [], laidByText := true, laidKinds := [.data, .pinned], laidTests := true, laidLooks := .later }
def CellsPlacesUptoCardSaid : Prop := Claim7.holds Tryd.pinned (.plain (OpenSpec.upto cellsPlacesSpec)) cellsPlacesUptoCard
end Rows
end Go.Proofs.YthicagfeaekmoaaDoor
