/-
  DERIVED. GIVEN WITH THE SEED: THE CARDS: each row of YtjbnffclpebkkaaGreatDoorRows.lean that lists a variable, with what it lists TIED to the program's text (the seventh form; the later family's looks); each row that meets fmt, with fmt's text TOLD by the authors' own Lean function (tested against real Go, not proved from fmt's source: count such statements apart). THE CARD IS WHAT COUNTS. Prove the row's statement (the work); the ties are given (YtjbnffclpebkkaaGreatDoorTie.lean); close each card by the builder's one call (the guide's Derived/Test/ToyasCard.lean, 'card_holds'). Laid BY PROGRAM, IN A SANDBOX (cutbox-door.mjs). By AI agents, Wed Nov 11 2026. No macro, syntax, notation, axiom, sorry.
-/
import Derived.Test.YtjbnffclpebkkaaGreatDoorRows
import GoSem.ClaimSeven
namespace Go.Proofs.YtjbnffclpebkkaaGreatDoor
namespace Rows

/-- THE TIED CARD OF 'gantlaw2.CopiesApart'. -/
def copiesApartCard : Claim7 := { stood := { row := copiesApartRow, standIns := [], harness := (true, "a1b17c79d1ef5673e9825e0b5515475d28e57c00a59f1fd127b381d0beb41c10"), looks := false }, kinds := [], alts := [], laidByText := true, laidKinds := [.data], laidTests := true, laidLooks := .later }
def CopiesApartCardSaid : Prop := Claim7.holds Tryz.pinned (.plain (OpenSpec.ofChange copiesApartSpec)) copiesApartCard

/-- THE TIED CARD OF 'gantkeep2.WorksCopies'. -/
def worksCopiesCard : Claim7 := { stood := { row := worksCopiesRow, standIns := [], harness := (true, "a1b17c79d1ef5673e9825e0b5515475d28e57c00a59f1fd127b381d0beb41c10"), looks := false }, kinds := [], alts := [], laidByText := true, laidKinds := [.data], laidTests := true, laidLooks := .later }
def WorksCopiesCardSaid : Prop := Claim7.holds Tryz.pinned (.plain (OpenSpec.ofChange worksCopiesSpec)) worksCopiesCard

/-- THE TIED CARD OF 'gantkeep2.MoveOpens'. -/
def moveOpensCard : Claim7 := { stood := { row := moveOpensRow, standIns := [], harness := (true, "a1b17c79d1ef5673e9825e0b5515475d28e57c00a59f1fd127b381d0beb41c10"), looks := false }, kinds := [], alts := [], laidByText := true, laidKinds := [.data], laidTests := true, laidLooks := .later }
def MoveOpensCardSaid : Prop := Claim7.holds Tryz.pinned (.plain (OpenSpec.ofChange moveOpensSpec)) moveOpensCard

/-- THE TIED CARD OF 'gantkeep2.DoneFirst'. -/
def doneFirstCard : Claim7 := { stood := { row := doneFirstRow, standIns := [], harness := (true, "a1b17c79d1ef5673e9825e0b5515475d28e57c00a59f1fd127b381d0beb41c10"), looks := false }, kinds := [], alts := [], laidByText := true, laidKinds := [.data], laidTests := true, laidLooks := .later }
def DoneFirstCardSaid : Prop := Claim7.holds Tryz.pinned (.plain (OpenSpec.ofChange doneFirstSpec)) doneFirstCard

/-- THE TIED CARD OF 'gantkeep2.WorldCopies'. -/
def worldCopiesCard : Claim7 := { stood := { row := worldCopiesRow, standIns := [], harness := (true, "a1b17c79d1ef5673e9825e0b5515475d28e57c00a59f1fd127b381d0beb41c10"), looks := false }, kinds := [], alts := [], laidByText := true, laidKinds := [.data], laidTests := true, laidLooks := .later }
def WorldCopiesCardSaid : Prop := Claim7.holds Tryz.pinned (.plain (OpenSpec.ofChange worldCopiesSpec)) worldCopiesCard

/-- THE TIED CARD OF 'gantlaw2.WorksChecks'. -/
def worksChecksCard : Claim7 := { stood := { row := worksChecksRow, standIns := [], harness := (true, "a1b17c79d1ef5673e9825e0b5515475d28e57c00a59f1fd127b381d0beb41c10"), looks := false }, kinds := [], alts := [], laidByText := true, laidKinds := [.data, .data, .pinned], laidTests := true, laidLooks := .later }
def WorksChecksCardSaid : Prop := Claim7.holds Tryz.pinned (.plain (OpenSpec.ofChange worksChecksSpec)) worksChecksCard

/-- THE SECOND FORM's CARD OF 'gantlaw2.CopiesApart'. -/
def copiesApartUptoCard : Claim7 := { stood := { row := copiesApartUptoRow, standIns := [], harness := (true, "a1b17c79d1ef5673e9825e0b5515475d28e57c00a59f1fd127b381d0beb41c10"), looks := false }, kinds := [], alts := [], laidByText := true, laidKinds := [.data], laidTests := true, laidLooks := .later }
def CopiesApartUptoCardSaid : Prop := Claim7.holds Tryz.pinned (.plain (OpenSpec.upto copiesApartSpec)) copiesApartUptoCard

/-- THE SECOND FORM's CARD OF 'gantkeep2.WorksCopies'. -/
def worksCopiesUptoCard : Claim7 := { stood := { row := worksCopiesUptoRow, standIns := [], harness := (true, "a1b17c79d1ef5673e9825e0b5515475d28e57c00a59f1fd127b381d0beb41c10"), looks := false }, kinds := [], alts := [], laidByText := true, laidKinds := [.data], laidTests := true, laidLooks := .later }
def WorksCopiesUptoCardSaid : Prop := Claim7.holds Tryz.pinned (.plain (OpenSpec.upto worksCopiesSpec)) worksCopiesUptoCard

/-- THE SECOND FORM's CARD OF 'gantkeep2.MoveOpens'. -/
def moveOpensUptoCard : Claim7 := { stood := { row := moveOpensUptoRow, standIns := [], harness := (true, "a1b17c79d1ef5673e9825e0b5515475d28e57c00a59f1fd127b381d0beb41c10"), looks := false }, kinds := [], alts := [], laidByText := true, laidKinds := [.data], laidTests := true, laidLooks := .later }
def MoveOpensUptoCardSaid : Prop := Claim7.holds Tryz.pinned (.plain (OpenSpec.upto moveOpensSpec)) moveOpensUptoCard

/-- THE SECOND FORM's CARD OF 'gantkeep2.DoneFirst'. -/
def doneFirstUptoCard : Claim7 := { stood := { row := doneFirstUptoRow, standIns := [], harness := (true, "a1b17c79d1ef5673e9825e0b5515475d28e57c00a59f1fd127b381d0beb41c10"), looks := false }, kinds := [], alts := [], laidByText := true, laidKinds := [.data], laidTests := true, laidLooks := .later }
def DoneFirstUptoCardSaid : Prop := Claim7.holds Tryz.pinned (.plain (OpenSpec.upto doneFirstSpec)) doneFirstUptoCard

/-- THE SECOND FORM's CARD OF 'gantkeep2.WorldCopies'. -/
def worldCopiesUptoCard : Claim7 := { stood := { row := worldCopiesUptoRow, standIns := [], harness := (true, "a1b17c79d1ef5673e9825e0b5515475d28e57c00a59f1fd127b381d0beb41c10"), looks := false }, kinds := [], alts := [], laidByText := true, laidKinds := [.data], laidTests := true, laidLooks := .later }
def WorldCopiesUptoCardSaid : Prop := Claim7.holds Tryz.pinned (.plain (OpenSpec.upto worldCopiesSpec)) worldCopiesUptoCard

/-- THE SECOND FORM's CARD OF 'gantlaw2.WorksChecks'. -/
def worksChecksUptoCard : Claim7 := { stood := { row := worksChecksUptoRow, standIns := [], harness := (true, "a1b17c79d1ef5673e9825e0b5515475d28e57c00a59f1fd127b381d0beb41c10"), looks := false }, kinds := [], alts := [], laidByText := true, laidKinds := [.data, .data, .pinned], laidTests := true, laidLooks := .later }
def WorksChecksUptoCardSaid : Prop := Claim7.holds Tryz.pinned (.plain (OpenSpec.upto worksChecksSpec)) worksChecksUptoCard
end Rows
end Go.Proofs.YtjbnffclpebkkaaGreatDoor
