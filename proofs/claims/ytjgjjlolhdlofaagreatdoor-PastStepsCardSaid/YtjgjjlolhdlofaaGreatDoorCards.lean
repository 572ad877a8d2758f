/-
  DERIVED. GIVEN WITH THE SEED: THE CARDS: each row of YtjgjjlolhdlofaaGreatDoorRows.lean that lists a variable, with what it lists TIED to the program's text (the seventh form; the later family's looks); each row that meets fmt, with fmt's text TOLD by the authors' own Lean function (tested against real Go, not proved from fmt's source: count such statements apart). THE CARD IS WHAT COUNTS. Prove the row's statement (the work); the ties are given (YtjgjjlolhdlofaaGreatDoorTie.lean); close each card by the builder's one call (the guide's Derived/Test/ToyasCard.lean, 'card_holds'). Laid BY PROGRAM, IN A SANDBOX (cutbox-door.mjs). By AI agents, Wed Nov 11 2026. No macro, syntax, notation, axiom, sorry.
-/
import Derived.Test.YtjgjjlolhdlofaaGreatDoorRows
import GoSem.ClaimSeven
namespace Go.Proofs.YtjgjjlolhdlofaaGreatDoor
namespace Rows

/-- THE TIED CARD OF 'foolscaplaw31.PastAt'. -/
def pastAtCard : Claim7 := { stood := { row := pastAtRow, standIns := [], harness := (true, "16141b335ec1fc25263d81c1cda3f566d52646a54f599413dd15235891933048"), looks := false }, kinds := [], alts := [], laidByText := true, laidKinds := [.data, .pinned], laidTests := true, laidLooks := .later }
def PastAtCardSaid : Prop := Claim7.holds Tryz.pinned (.plain (OpenSpec.ofChange pastAtSpec)) pastAtCard

/-- THE TIED CARD OF 'foolscaplaw31.PastSteps'. -/
def pastStepsCard : Claim7 := { stood := { row := pastStepsRow, standIns := [], harness := (true, "16141b335ec1fc25263d81c1cda3f566d52646a54f599413dd15235891933048"), looks := false }, kinds := [], alts := [], laidByText := true, laidKinds := [.data, .pinned], laidTests := true, laidLooks := .later }
def PastStepsCardSaid : Prop := Claim7.holds Tryz.pinned (.plain (OpenSpec.ofChange pastStepsSpec)) pastStepsCard

/-- THE TIED CARD OF 'foolscaplaw31.PastComes'. -/
def pastComesCard : Claim7 := { stood := { row := pastComesRow, standIns := [], harness := (true, "16141b335ec1fc25263d81c1cda3f566d52646a54f599413dd15235891933048"), looks := false }, kinds := [], alts := [], laidByText := true, laidKinds := [.data, .pinned], laidTests := true, laidLooks := .later }
def PastComesCardSaid : Prop := Claim7.holds Tryz.pinned (.plain (OpenSpec.ofChange pastComesSpec)) pastComesCard

/-- THE TIED CARD OF 'foolscaplaw31.PastPlays'. -/
def pastPlaysCard : Claim7 := { stood := { row := pastPlaysRow, standIns := [], harness := (true, "16141b335ec1fc25263d81c1cda3f566d52646a54f599413dd15235891933048"), looks := false }, kinds := [], alts := [], laidByText := true, laidKinds := [.data, .pinned], laidTests := true, laidLooks := .later }
def PastPlaysCardSaid : Prop := Claim7.holds Tryz.pinned (.plain (OpenSpec.ofChange pastPlaysSpec)) pastPlaysCard

/-- THE SECOND FORM's CARD OF 'foolscaplaw31.PastAt'. -/
def pastAtUptoCard : Claim7 := { stood := { row := pastAtUptoRow, standIns := [], harness := (true, "16141b335ec1fc25263d81c1cda3f566d52646a54f599413dd15235891933048"), looks := false }, kinds := [], alts := [], laidByText := true, laidKinds := [.data, .pinned], laidTests := true, laidLooks := .later }
def PastAtUptoCardSaid : Prop := Claim7.holds Tryz.pinned (.plain (OpenSpec.upto pastAtSpec)) pastAtUptoCard

/-- THE SECOND FORM's CARD OF 'foolscaplaw31.PastSteps'. -/
def pastStepsUptoCard : Claim7 := { stood := { row := pastStepsUptoRow, standIns := [], harness := (true, "16141b335ec1fc25263d81c1cda3f566d52646a54f599413dd15235891933048"), looks := false }, kinds := [], alts := [], laidByText := true, laidKinds := [.data, .pinned], laidTests := true, laidLooks := .later }
def PastStepsUptoCardSaid : Prop := Claim7.holds Tryz.pinned (.plain (OpenSpec.upto pastStepsSpec)) pastStepsUptoCard

/-- THE SECOND FORM's CARD OF 'foolscaplaw31.PastComes'. -/
def pastComesUptoCard : Claim7 := { stood := { row := pastComesUptoRow, standIns := [], harness := (true, "16141b335ec1fc25263d81c1cda3f566d52646a54f599413dd15235891933048"), looks := false }, kinds := [], alts := [], laidByText := true, laidKinds := [.data, .pinned], laidTests := true, laidLooks := .later }
def PastComesUptoCardSaid : Prop := Claim7.holds Tryz.pinned (.plain (OpenSpec.upto pastComesSpec)) pastComesUptoCard

/-- THE SECOND FORM's CARD OF 'foolscaplaw31.PastPlays'. -/
def pastPlaysUptoCard : Claim7 := { stood := { row := pastPlaysUptoRow, standIns := [], harness := (true, "16141b335ec1fc25263d81c1cda3f566d52646a54f599413dd15235891933048"), looks := false }, kinds := [], alts := [], laidByText := true, laidKinds := [.data, .pinned], laidTests := true, laidLooks := .later }
def PastPlaysUptoCardSaid : Prop := Claim7.holds Tryz.pinned (.plain (OpenSpec.upto pastPlaysSpec)) pastPlaysUptoCard
end Rows
end Go.Proofs.YtjgjjlolhdlofaaGreatDoor
