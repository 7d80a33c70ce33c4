/-
  DERIVED. GIVEN WITH THE SEED: THE CARDS: each row of YtcjnecmgificmaaGreatDoorRows.lean that lists a variable, with what it lists TIED to the program's text (the seventh form; the later family's looks); each row that meets fmt, with fmt's text TOLD by the authors' own Lean function (tested against real Go, not proved from fmt's source: count such statements apart). THE CARD IS WHAT COUNTS. Prove the row's statement (the work); the ties are given (YtcjnecmgificmaaGreatDoorTie.lean); close each card by the builder's one call (the guide's Derived/Test/ToyasCard.lean, 'card_holds'). Laid BY PROGRAM, IN A SANDBOX (cutbox-door.mjs). By AI agents, Wed Nov 11 2026. No macro, syntax, notation, axiom, sorry.
-/
import Derived.Test.YtcjnecmgificmaaGreatDoorRows
import GoSem.ClaimSeven
namespace Go.Proofs.YtcjnecmgificmaaGreatDoor
namespace Rows

/-- THE TIED CARD OF 'cattlecreeplaw.ShowTells'. -/
def showTellsCard : Claim7 := { stood := { row := showTellsRow, standIns := [], harness := (true, "389d8a1268899dd92b374f236f37de57462f687d706e56db8ffabf400a7a17f8"), looks := true }, kinds := [], alts := [], laidByText := true, laidKinds := [.data, .data, .data, .data, .sentinel, .sentinel, .pinned], laidTests := true, laidLooks := .later }
def ShowTellsCardSaid : Prop := Claim7.holds Tryz.pinned (.plain (OpenSpec.ofChange showTellsSpec)) showTellsCard

/-- THE TIED CARD OF 'cattlecreeplaw.ConfChecks'. -/
def confChecksCard : Claim7 := { stood := { row := confChecksRow, standIns := [], harness := (true, "389d8a1268899dd92b374f236f37de57462f687d706e56db8ffabf400a7a17f8"), looks := true }, kinds := [], alts := [], laidByText := true, laidKinds := [.data, .data, .data, .data, .sentinel, .sentinel, .pinned], laidTests := true, laidLooks := .later }
def ConfChecksCardSaid : Prop := Claim7.holds Tryz.pinned (.plain (OpenSpec.ofChange confChecksSpec)) confChecksCard

/-- THE TIED CARD OF 'cattlecreeplaw.BatchParses'. -/
def batchParsesCard : Claim7 := { stood := { row := batchParsesRow, standIns := [], harness := (true, "389d8a1268899dd92b374f236f37de57462f687d706e56db8ffabf400a7a17f8"), looks := true }, kinds := [], alts := [], laidByText := true, laidKinds := [.data, .data, .data, .data, .sentinel, .sentinel, .pinned], laidTests := true, laidLooks := .later }
def BatchParsesCardSaid : Prop := Claim7.holds Tryz.pinned (.plain (OpenSpec.ofChange batchParsesSpec)) batchParsesCard

/-- THE TIED CARD OF 'cattlecreeplaw.StageChecks'. -/
def stageChecksCard : Claim7 := { stood := { row := stageChecksRow, standIns := [], harness := (true, "389d8a1268899dd92b374f236f37de57462f687d706e56db8ffabf400a7a17f8"), looks := true }, kinds := [], alts := [], laidByText := true, laidKinds := [.data, .data, .data, .data, .sentinel, .sentinel, .pinned], laidTests := true, laidLooks := .later }
def StageChecksCardSaid : Prop := Claim7.holds Tryz.pinned (.plain (OpenSpec.ofChange stageChecksSpec)) stageChecksCard

/-- THE SECOND FORM's CARD OF 'cattlecreeplaw.ShowTells'. -/
def showTellsUptoCard : Claim7 := { stood := { row := showTellsUptoRow, standIns := [], harness := (true, "389d8a1268899dd92b374f236f37de57462f687d706e56db8ffabf400a7a17f8"), looks := true }, kinds := [], alts := [], laidByText := true, laidKinds := [.data, .data, .data, .data, .sentinel, .sentinel, .pinned], laidTests := true, laidLooks := .later }
def ShowTellsUptoCardSaid : Prop := Claim7.holds Tryz.pinned (.plain (OpenSpec.upto showTellsSpec)) showTellsUptoCard

/-- THE SECOND FORM's CARD OF 'cattlecreeplaw.ConfChecks'. -/
def confChecksUptoCard : Claim7 := { stood := { row := confChecksUptoRow, standIns := [], harness := (true, "389d8a1268899dd92b374f236f37de57462f687d706e56db8ffabf400a7a17f8"), looks := true }, kinds := [], alts := [], laidByText := true, laidKinds := [.data, .data, .data, .data, .sentinel, .sentinel, .pinned], laidTests := true, laidLooks := .later }
def ConfChecksUptoCardSaid : Prop := Claim7.holds Tryz.pinned (.plain (OpenSpec.upto confChecksSpec)) confChecksUptoCard

/-- THE SECOND FORM's CARD OF 'cattlecreeplaw.BatchParses'. -/
def batchParsesUptoCard : Claim7 := { stood := { row := batchParsesUptoRow, standIns := [], harness := (true, "389d8a1268899dd92b374f236f37de57462f687d706e56db8ffabf400a7a17f8"), looks := true }, kinds := [], alts := [], laidByText := true, laidKinds := [.data, .data, .data, .data, .sentinel, .sentinel, .pinned], laidTests := true, laidLooks := .later }
def BatchParsesUptoCardSaid : Prop := Claim7.holds Tryz.pinned (.plain (OpenSpec.upto batchParsesSpec)) batchParsesUptoCard

/-- THE SECOND FORM's CARD OF 'cattlecreeplaw.StageChecks'. -/
def stageChecksUptoCard : Claim7 := { stood := { row := stageChecksUptoRow, standIns := [], harness := (true, "389d8a1268899dd92b374f236f37de57462f687d706e56db8ffabf400a7a17f8"), looks := true }, kinds := [], alts := [], laidByText := true, laidKinds := [.data, .data, .data, .data, .sentinel, .sentinel, .pinned], laidTests := true, laidLooks := .later }
def StageChecksUptoCardSaid : Prop := Claim7.holds Tryz.pinned (.plain (OpenSpec.upto stageChecksSpec)) stageChecksUptoCard
end Rows
end Go.Proofs.YtcjnecmgificmaaGreatDoor
