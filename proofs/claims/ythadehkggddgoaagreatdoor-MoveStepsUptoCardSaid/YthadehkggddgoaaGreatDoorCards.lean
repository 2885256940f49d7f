/-
  DERIVED. GIVEN WITH THE SEED: THE CARDS: each row of YthadehkggddgoaaGreatDoorRows.lean that lists a variable, with what it lists TIED to the program's text (the seventh form; the later family's looks); each row that meets fmt, with fmt's text TOLD by the authors' own Lean function (tested against real Go, not proved from fmt's source: count such statements apart). THE CARD IS WHAT COUNTS. Prove the row's statement (the work); the ties are given (YthadehkggddgoaaGreatDoorTie.lean); close each card by the builder's one call (the guide's Derived/Test/ToyasCard.lean, 'card_holds'). Laid BY PROGRAM, IN A SANDBOX (cutbox-door.mjs). By AI agents, Wed Nov 11 2026. No macro, syntax, notation, axiom, sorry.
-/
import Derived.Test.YthadehkggddgoaaGreatDoorRows
import GoSem.ClaimSeven
namespace Go.Proofs.YthadehkggddgoaaGreatDoor
namespace Rows

/-- THE TIED CARD OF 'gantkeep2.MoveOpens'. -/
def moveOpensCard : Claim7 := { stood := { row := moveOpensRow, standIns := [], harness := (true, "2f21214640638a9fabb3d0f013318c262a2265d8d1daaa8fe16147bad1df93c5"), looks := false }, kinds := [], alts := [], laidByText := true, laidKinds := [.data], laidTests := true, laidLooks := .later }
def MoveOpensCardSaid : Prop := Claim7.holds Tryz.pinned (.plain (OpenSpec.ofChange moveOpensSpec)) moveOpensCard

/-- THE TIED CARD OF 'gantkeep2.DoneFirst'. -/
def doneFirstCard : Claim7 := { stood := { row := doneFirstRow, standIns := [], harness := (true, "2f21214640638a9fabb3d0f013318c262a2265d8d1daaa8fe16147bad1df93c5"), looks := false }, kinds := [], alts := [], laidByText := true, laidKinds := [.data], laidTests := true, laidLooks := .later }
def DoneFirstCardSaid : Prop := Claim7.holds Tryz.pinned (.plain (OpenSpec.ofChange doneFirstSpec)) doneFirstCard

/-- THE TIED CARD OF 'gantkeep2.WorldCopies'. -/
def worldCopiesCard : Claim7 := { stood := { row := worldCopiesRow, standIns := [], harness := (true, "2f21214640638a9fabb3d0f013318c262a2265d8d1daaa8fe16147bad1df93c5"), looks := false }, kinds := [], alts := [], laidByText := true, laidKinds := [.data], laidTests := true, laidLooks := .later }
def WorldCopiesCardSaid : Prop := Claim7.holds Tryz.pinned (.plain (OpenSpec.ofChange worldCopiesSpec)) worldCopiesCard

/-- THE TIED CARD OF 'gantkeep2.MoveBrakes'. -/
def moveBrakesCard : Claim7 := { stood := { row := moveBrakesRow, standIns := [], harness := (true, "2f21214640638a9fabb3d0f013318c262a2265d8d1daaa8fe16147bad1df93c5"), looks := false }, kinds := [], alts := [], laidByText := true, laidKinds := [.data], laidTests := true, laidLooks := .later }
def MoveBrakesCardSaid : Prop := Claim7.holds Tryz.pinned (.plain (OpenSpec.ofChange moveBrakesSpec)) moveBrakesCard

/-- THE TIED CARD OF 'gantkeep2.MoveHolds'. -/
def moveHoldsCard : Claim7 := { stood := { row := moveHoldsRow, standIns := [], harness := (true, "2f21214640638a9fabb3d0f013318c262a2265d8d1daaa8fe16147bad1df93c5"), looks := false }, kinds := [], alts := [], laidByText := true, laidKinds := [.data], laidTests := true, laidLooks := .later }
def MoveHoldsCardSaid : Prop := Claim7.holds Tryz.pinned (.plain (OpenSpec.ofChange moveHoldsSpec)) moveHoldsCard

/-- THE TIED CARD OF 'gantlaw2.WorldChecks'. -/
def worldChecksCard : Claim7 := { stood := { row := worldChecksRow, standIns := [], harness := (true, "2f21214640638a9fabb3d0f013318c262a2265d8d1daaa8fe16147bad1df93c5"), looks := false }, kinds := [], alts := [], laidByText := true, laidKinds := [.data, .data, .pinned], laidTests := true, laidLooks := .later }
def WorldChecksCardSaid : Prop := Claim7.holds Tryz.pinned (.plain (OpenSpec.ofChange worldChecksSpec)) worldChecksCard

/-- THE TIED CARD OF 'gantlaw2.DoneSays'. -/
def doneSaysCard : Claim7 := { stood := { row := doneSaysRow, standIns := [], harness := (true, "2f21214640638a9fabb3d0f013318c262a2265d8d1daaa8fe16147bad1df93c5"), looks := false }, kinds := [], alts := [], laidByText := true, laidKinds := [.data, .data, .pinned], laidTests := true, laidLooks := .later }
def DoneSaysCardSaid : Prop := Claim7.holds Tryz.pinned (.plain (OpenSpec.ofChange doneSaysSpec)) doneSaysCard

/-- THE TIED CARD OF 'gantlaw2.MoveSteps'. -/
def moveStepsCard : Claim7 := { stood := { row := moveStepsRow, standIns := [], harness := (true, "2f21214640638a9fabb3d0f013318c262a2265d8d1daaa8fe16147bad1df93c5"), looks := false }, kinds := [], alts := [], laidByText := true, laidKinds := [.data, .data, .pinned], laidTests := true, laidLooks := .later }
def MoveStepsCardSaid : Prop := Claim7.holds Tryz.pinned (.plain (OpenSpec.ofChange moveStepsSpec)) moveStepsCard

/-- THE TIED CARD OF 'gantlaw2.MoveGates'. -/
def moveGatesCard : Claim7 := { stood := { row := moveGatesRow, standIns := [], harness := (true, "2f21214640638a9fabb3d0f013318c262a2265d8d1daaa8fe16147bad1df93c5"), looks := false }, kinds := [], alts := [], laidByText := true, laidKinds := [.data, .data, .pinned], laidTests := true, laidLooks := .later }
def MoveGatesCardSaid : Prop := Claim7.holds Tryz.pinned (.plain (OpenSpec.ofChange moveGatesSpec)) moveGatesCard

/-- THE TIED CARD OF 'gantlaw2.MoveTakes'. -/
def moveTakesCard : Claim7 := { stood := { row := moveTakesRow, standIns := [], harness := (true, "2f21214640638a9fabb3d0f013318c262a2265d8d1daaa8fe16147bad1df93c5"), looks := false }, kinds := [], alts := [], laidByText := true, laidKinds := [.data, .data, .pinned], laidTests := true, laidLooks := .later }
def MoveTakesCardSaid : Prop := Claim7.holds Tryz.pinned (.plain (OpenSpec.ofChange moveTakesSpec)) moveTakesCard

/-- THE SECOND FORM's CARD OF 'gantkeep2.MoveOpens'. -/
def moveOpensUptoCard : Claim7 := { stood := { row := moveOpensUptoRow, standIns := [], harness := (true, "2f21214640638a9fabb3d0f013318c262a2265d8d1daaa8fe16147bad1df93c5"), looks := false }, kinds := [], alts := [], laidByText := true, laidKinds := [.data], laidTests := true, laidLooks := .later }
def MoveOpensUptoCardSaid : Prop := Claim7.holds Tryz.pinned (.plain (OpenSpec.upto moveOpensSpec)) moveOpensUptoCard

/-- THE SECOND FORM's CARD OF 'gantkeep2.DoneFirst'. -/
def doneFirstUptoCard : Claim7 := { stood := { row := doneFirstUptoRow, standIns := [], harness := (true, "2f21214640638a9fabb3d0f013318c262a2265d8d1daaa8fe16147bad1df93c5"), looks := false }, kinds := [], alts := [], laidByText := true, laidKinds := [.data], laidTests := true, laidLooks := .later }
def DoneFirstUptoCardSaid : Prop := Claim7.holds Tryz.pinned (.plain (OpenSpec.upto doneFirstSpec)) doneFirstUptoCard

/-- THE SECOND FORM's CARD OF 'gantkeep2.WorldCopies'. -/
def worldCopiesUptoCard : Claim7 := { stood := { row := worldCopiesUptoRow, standIns := [], harness := (true, "2f21214640638a9fabb3d0f013318c262a2265d8d1daaa8fe16147bad1df93c5"), looks := false }, kinds := [], alts := [], laidByText := true, laidKinds := [.data], laidTests := true, laidLooks := .later }
def WorldCopiesUptoCardSaid : Prop := Claim7.holds Tryz.pinned (.plain (OpenSpec.upto worldCopiesSpec)) worldCopiesUptoCard

/-- THE SECOND FORM's CARD OF 'gantkeep2.MoveBrakes'. -/
def moveBrakesUptoCard : Claim7 := { stood := { row := moveBrakesUptoRow, standIns := [], harness := (true, "2f21214640638a9fabb3d0f013318c262a2265d8d1daaa8fe16147bad1df93c5"), looks := false }, kinds := [], alts := [], laidByText := true, laidKinds := [.data], laidTests := true, laidLooks := .later }
def MoveBrakesUptoCardSaid : Prop := Claim7.holds Tryz.pinned (.plain (OpenSpec.upto moveBrakesSpec)) moveBrakesUptoCard

/-- THE SECOND FORM's CARD OF 'gantkeep2.MoveHolds'. -/
def moveHoldsUptoCard : Claim7 := { stood := { row := moveHoldsUptoRow, standIns := [], harness := (true, "2f21214640638a9fabb3d0f013318c262a2265d8d1daaa8fe16147bad1df93c5"), looks := false }, kinds := [], alts := [], laidByText := true, laidKinds := [.data], laidTests := true, laidLooks := .later }
def MoveHoldsUptoCardSaid : Prop := Claim7.holds Tryz.pinned (.plain (OpenSpec.upto moveHoldsSpec)) moveHoldsUptoCard

/-- THE SECOND FORM's CARD OF 'gantlaw2.WorldChecks'. -/
def worldChecksUptoCard : Claim7 := { stood := { row := worldChecksUptoRow, standIns := [], harness := (true, "2f21214640638a9fabb3d0f013318c262a2265d8d1daaa8fe16147bad1df93c5"), looks := false }, kinds := [], alts := [], laidByText := true, laidKinds := [.data, .data, .pinned], laidTests := true, laidLooks := .later }
def WorldChecksUptoCardSaid : Prop := Claim7.holds Tryz.pinned (.plain (OpenSpec.upto worldChecksSpec)) worldChecksUptoCard

/-- THE SECOND FORM's CARD OF 'gantlaw2.DoneSays'. -/
def doneSaysUptoCard : Claim7 := { stood := { row := doneSaysUptoRow, standIns := [], harness := (true, "2f21214640638a9fabb3d0f013318c262a2265d8d1daaa8fe16147bad1df93c5"), looks := false }, kinds := [], alts := [], laidByText := true, laidKinds := [.data, .data, .pinned], laidTests := true, laidLooks := .later }
def DoneSaysUptoCardSaid : Prop := Claim7.holds Tryz.pinned (.plain (OpenSpec.upto doneSaysSpec)) doneSaysUptoCard

/-- THE SECOND FORM's CARD OF 'gantlaw2.MoveSteps'. -/
def moveStepsUptoCard : Claim7 := { stood := { row := moveStepsUptoRow, standIns := [], harness := (true, "2f21214640638a9fabb3d0f013318c262a2265d8d1daaa8fe16147bad1df93c5"), looks := false }, kinds := [], alts := [], laidByText := true, laidKinds := [.data, .data, .pinned], laidTests := true, laidLooks := .later }
def MoveStepsUptoCardSaid : Prop := Claim7.holds Tryz.pinned (.plain (OpenSpec.upto moveStepsSpec)) moveStepsUptoCard

/-- THE SECOND FORM's CARD OF 'gantlaw2.MoveGates'. -/
def moveGatesUptoCard : Claim7 := { stood := { row := moveGatesUptoRow, standIns := [], harness := (true, "2f21214640638a9fabb3d0f013318c262a2265d8d1daaa8fe16147bad1df93c5"), looks := false }, kinds := [], alts := [], laidByText := true, laidKinds := [.data, .data, .pinned], laidTests := true, laidLooks := .later }
def MoveGatesUptoCardSaid : Prop := Claim7.holds Tryz.pinned (.plain (OpenSpec.upto moveGatesSpec)) moveGatesUptoCard

/-- THE SECOND FORM's CARD OF 'gantlaw2.MoveTakes'. -/
def moveTakesUptoCard : Claim7 := { stood := { row := moveTakesUptoRow, standIns := [], harness := (true, "2f21214640638a9fabb3d0f013318c262a2265d8d1daaa8fe16147bad1df93c5"), looks := false }, kinds := [], alts := [], laidByText := true, laidKinds := [.data, .data, .pinned], laidTests := true, laidLooks := .later }
def MoveTakesUptoCardSaid : Prop := Claim7.holds Tryz.pinned (.plain (OpenSpec.upto moveTakesSpec)) moveTakesUptoCard
end Rows
end Go.Proofs.YthadehkggddgoaaGreatDoor
