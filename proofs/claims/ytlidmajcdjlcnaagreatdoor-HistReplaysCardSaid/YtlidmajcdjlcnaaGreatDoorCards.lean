/-
  DERIVED. GIVEN WITH THE SEED: THE CARDS: each row of YtlidmajcdjlcnaaGreatDoorRows.lean that lists a variable, with what it lists TIED to the program's text (the seventh form; the later family's looks); each row that meets fmt, with fmt's text TOLD by the authors' own Lean function (tested against real Go, not proved from fmt's source: count such statements apart). THE CARD IS WHAT COUNTS. Prove the row's statement (the work); the ties are given (YtlidmajcdjlcnaaGreatDoorTie.lean); close each card by the builder's one call (the guide's Derived/Test/ToyasCard.lean, 'card_holds'). Laid BY PROGRAM, IN A SANDBOX (cutbox-door.mjs). By AI agents, Wed Nov 11 2026. No macro, syntax, notation, axiom, sorry.
-/
import Derived.Test.YtlidmajcdjlcnaaGreatDoorRows
import GoSem.ClaimSeven
namespace Go.Proofs.YtlidmajcdjlcnaaGreatDoor
namespace Rows

/-- THE TIED CARD OF 'foolscaplaw13.HistApart'. -/
def histApartCard : Claim7 := { stood := { row := histApartRow, standIns := [], harness := (true, "50adfd64e4ae807ed3aa6a9424c5f4e473813d4260e9e59d20a2f12ac54da82f"), looks := true }, kinds := [], alts := [], laidByText := true, laidKinds := [.data, .pinned], laidTests := true, laidLooks := .later }
def HistApartCardSaid : Prop := Claim7.holds Tryz.pinned (.plain (OpenSpec.ofChange histApartSpec)) histApartCard

/-- THE TIED CARD OF 'foolscaplaw13.HistAdds'. -/
def histAddsCard : Claim7 := { stood := { row := histAddsRow, standIns := [], harness := (true, "50adfd64e4ae807ed3aa6a9424c5f4e473813d4260e9e59d20a2f12ac54da82f"), looks := true }, kinds := [], alts := [], laidByText := true, laidKinds := [.data, .pinned], laidTests := true, laidLooks := .later }
def HistAddsCardSaid : Prop := Claim7.holds Tryz.pinned (.plain (OpenSpec.ofChange histAddsSpec)) histAddsCard

/-- THE TIED CARD OF 'foolscaplaw13.HistMay'. -/
def histMayCard : Claim7 := { stood := { row := histMayRow, standIns := [], harness := (true, "50adfd64e4ae807ed3aa6a9424c5f4e473813d4260e9e59d20a2f12ac54da82f"), looks := true }, kinds := [], alts := [], laidByText := true, laidKinds := [.data, .pinned], laidTests := true, laidLooks := .later }
def HistMayCardSaid : Prop := Claim7.holds Tryz.pinned (.plain (OpenSpec.ofChange histMaySpec)) histMayCard

/-- THE TIED CARD OF 'foolscaplaw13.HistMoves'. -/
def histMovesCard : Claim7 := { stood := { row := histMovesRow, standIns := [], harness := (true, "50adfd64e4ae807ed3aa6a9424c5f4e473813d4260e9e59d20a2f12ac54da82f"), looks := true }, kinds := [], alts := [], laidByText := true, laidKinds := [.data, .pinned], laidTests := true, laidLooks := .later }
def HistMovesCardSaid : Prop := Claim7.holds Tryz.pinned (.plain (OpenSpec.ofChange histMovesSpec)) histMovesCard

/-- THE TIED CARD OF 'foolscaplaw13.HistReplays'. -/
def histReplaysCard : Claim7 := { stood := { row := histReplaysRow, standIns := [], harness := (true, "50adfd64e4ae807ed3aa6a9424c5f4e473813d4260e9e59d20a2f12ac54da82f"), looks := true }, kinds := [], alts := [], laidByText := true, laidKinds := [.data, .pinned], laidTests := true, laidLooks := .later }
def HistReplaysCardSaid : Prop := Claim7.holds Tryz.pinned (.plain (OpenSpec.ofChange histReplaysSpec)) histReplaysCard

/-- THE SECOND FORM's CARD OF 'foolscaplaw13.HistApart'. -/
def histApartUptoCard : Claim7 := { stood := { row := histApartUptoRow, standIns := [], harness := (true, "50adfd64e4ae807ed3aa6a9424c5f4e473813d4260e9e59d20a2f12ac54da82f"), looks := true }, kinds := [], alts := [], laidByText := true, laidKinds := [.data, .pinned], laidTests := true, laidLooks := .later }
def HistApartUptoCardSaid : Prop := Claim7.holds Tryz.pinned (.plain (OpenSpec.upto histApartSpec)) histApartUptoCard

/-- THE SECOND FORM's CARD OF 'foolscaplaw13.HistAdds'. -/
def histAddsUptoCard : Claim7 := { stood := { row := histAddsUptoRow, standIns := [], harness := (true, "50adfd64e4ae807ed3aa6a9424c5f4e473813d4260e9e59d20a2f12ac54da82f"), looks := true }, kinds := [], alts := [], laidByText := true, laidKinds := [.data, .pinned], laidTests := true, laidLooks := .later }
def HistAddsUptoCardSaid : Prop := Claim7.holds Tryz.pinned (.plain (OpenSpec.upto histAddsSpec)) histAddsUptoCard

/-- THE SECOND FORM's CARD OF 'foolscaplaw13.HistMay'. -/
def histMayUptoCard : Claim7 := { stood := { row := histMayUptoRow, standIns := [], harness := (true, "50adfd64e4ae807ed3aa6a9424c5f4e473813d4260e9e59d20a2f12ac54da82f"), looks := true }, kinds := [], alts := [], laidByText := true, laidKinds := [.data, .pinned], laidTests := true, laidLooks := .later }
def HistMayUptoCardSaid : Prop := Claim7.holds Tryz.pinned (.plain (OpenSpec.upto histMaySpec)) histMayUptoCard

/-- THE SECOND FORM's CARD OF 'foolscaplaw13.HistMoves'. -/
def histMovesUptoCard : Claim7 := { stood := { row := histMovesUptoRow, standIns := [], harness := (true, "50adfd64e4ae807ed3aa6a9424c5f4e473813d4260e9e59d20a2f12ac54da82f"), looks := true }, kinds := [], alts := [], laidByText := true, laidKinds := [.data, .pinned], laidTests := true, laidLooks := .later }
def HistMovesUptoCardSaid : Prop := Claim7.holds Tryz.pinned (.plain (OpenSpec.upto histMovesSpec)) histMovesUptoCard

/-- THE SECOND FORM's CARD OF 'foolscaplaw13.HistReplays'. -/
def histReplaysUptoCard : Claim7 := { stood := { row := histReplaysUptoRow, standIns := [], harness := (true, "50adfd64e4ae807ed3aa6a9424c5f4e473813d4260e9e59d20a2f12ac54da82f"), looks := true }, kinds := [], alts := [], laidByText := true, laidKinds := [.data, .pinned], laidTests := true, laidLooks := .later }
def HistReplaysUptoCardSaid : Prop := Claim7.holds Tryz.pinned (.plain (OpenSpec.upto histReplaysSpec)) histReplaysUptoCard
end Rows
end Go.Proofs.YtlidmajcdjlcnaaGreatDoor
