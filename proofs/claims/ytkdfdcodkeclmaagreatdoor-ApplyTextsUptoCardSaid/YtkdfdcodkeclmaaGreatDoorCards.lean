/-
  DERIVED. GIVEN WITH THE SEED: THE CARDS: each row of YtkdfdcodkeclmaaGreatDoorRows.lean that lists a variable, with what it lists TIED to the program's text (the seventh form; the later family's looks); each row that meets fmt, with fmt's text TOLD by the authors' own Lean function (tested against real Go, not proved from fmt's source: count such statements apart). THE CARD IS WHAT COUNTS. Prove the row's statement (the work); the ties are given (YtkdfdcodkeclmaaGreatDoorTie.lean); close each card by the builder's one call (the guide's Derived/Test/ToyasCard.lean, 'card_holds'). Laid BY PROGRAM, IN A SANDBOX (cutbox-door.mjs). By AI agents, Wed Nov 11 2026. No macro, syntax, notation, axiom, sorry.
-/
import Derived.Test.YtkdfdcodkeclmaaGreatDoorRows
import GoSem.ClaimSeven
namespace Go.Proofs.YtkdfdcodkeclmaaGreatDoor
namespace Rows

/-- THE TIED CARD OF 'cattlecreeplaw.ApplyOnes'. -/
def applyOnesCard : Claim7 := { stood := { row := applyOnesRow, standIns := [], harness := (true, "1aad30ee8cfc63d609f1bbec5a52a3a67ebb59b17f575bf779d8eb0100a69827"), looks := true }, kinds := [], alts := [], laidByText := true, laidKinds := [.data, .data, .data, .data, .sentinel, .sentinel, .pinned], laidTests := true, laidLooks := .later }
def ApplyOnesCardSaid : Prop := Claim7.holds Tryz.pinned (.plain (OpenSpec.ofChange applyOnesSpec)) applyOnesCard

/-- THE TIED CARD OF 'cattlecreeplaw.ApplyRuns'. -/
def applyRunsCard : Claim7 := { stood := { row := applyRunsRow, standIns := [], harness := (true, "1aad30ee8cfc63d609f1bbec5a52a3a67ebb59b17f575bf779d8eb0100a69827"), looks := true }, kinds := [], alts := [], laidByText := true, laidKinds := [.data, .data, .data, .data, .sentinel, .sentinel, .pinned], laidTests := true, laidLooks := .later }
def ApplyRunsCardSaid : Prop := Claim7.holds Tryz.pinned (.plain (OpenSpec.ofChange applyRunsSpec)) applyRunsCard

/-- THE TIED CARD OF 'cattlecreeplaw.StageGoes'. -/
def stageGoesCard : Claim7 := { stood := { row := stageGoesRow, standIns := [], harness := (true, "1aad30ee8cfc63d609f1bbec5a52a3a67ebb59b17f575bf779d8eb0100a69827"), looks := true }, kinds := [], alts := [], laidByText := true, laidKinds := [.data, .data, .data, .data, .sentinel, .sentinel, .pinned], laidTests := true, laidLooks := .later }
def StageGoesCardSaid : Prop := Claim7.holds Tryz.pinned (.plain (OpenSpec.ofChange stageGoesSpec)) stageGoesCard

/-- THE TIED CARD OF 'cattlecreeplaw.ApplyTexts'. -/
def applyTextsCard : Claim7 := { stood := { row := applyTextsRow, standIns := [], harness := (true, "1aad30ee8cfc63d609f1bbec5a52a3a67ebb59b17f575bf779d8eb0100a69827"), looks := true }, kinds := [], alts := [], laidByText := true, laidKinds := [.data, .data, .data, .data, .sentinel, .sentinel, .pinned], laidTests := true, laidLooks := .later }
def ApplyTextsCardSaid : Prop := Claim7.holds Tryz.pinned (.plain (OpenSpec.ofChange applyTextsSpec)) applyTextsCard

/-- THE SECOND FORM's CARD OF 'cattlecreeplaw.ApplyOnes'. -/
def applyOnesUptoCard : Claim7 := { stood := { row := applyOnesUptoRow, standIns := [], harness := (true, "1aad30ee8cfc63d609f1bbec5a52a3a67ebb59b17f575bf779d8eb0100a69827"), looks := true }, kinds := [], alts := [], laidByText := true, laidKinds := [.data, .data, .data, .data, .sentinel, .sentinel, .pinned], laidTests := true, laidLooks := .later }
def ApplyOnesUptoCardSaid : Prop := Claim7.holds Tryz.pinned (.plain (OpenSpec.upto applyOnesSpec)) applyOnesUptoCard

/-- THE SECOND FORM's CARD OF 'cattlecreeplaw.ApplyRuns'. -/
def applyRunsUptoCard : Claim7 := { stood := { row := applyRunsUptoRow, standIns := [], harness := (true, "1aad30ee8cfc63d609f1bbec5a52a3a67ebb59b17f575bf779d8eb0100a69827"), looks := true }, kinds := [], alts := [], laidByText := true, laidKinds := [.data, .data, .data, .data, .sentinel, .sentinel, .pinned], laidTests := true, laidLooks := .later }
def ApplyRunsUptoCardSaid : Prop := Claim7.holds Tryz.pinned (.plain (OpenSpec.upto applyRunsSpec)) applyRunsUptoCard

/-- THE SECOND FORM's CARD OF 'cattlecreeplaw.StageGoes'. -/
def stageGoesUptoCard : Claim7 := { stood := { row := stageGoesUptoRow, standIns := [], harness := (true, "1aad30ee8cfc63d609f1bbec5a52a3a67ebb59b17f575bf779d8eb0100a69827"), looks := true }, kinds := [], alts := [], laidByText := true, laidKinds := [.data, .data, .data, .data, .sentinel, .sentinel, .pinned], laidTests := true, laidLooks := .later }
def StageGoesUptoCardSaid : Prop := Claim7.holds Tryz.pinned (.plain (OpenSpec.upto stageGoesSpec)) stageGoesUptoCard

/-- THE SECOND FORM's CARD OF 'cattlecreeplaw.ApplyTexts'. -/
def applyTextsUptoCard : Claim7 := { stood := { row := applyTextsUptoRow, standIns := [], harness := (true, "1aad30ee8cfc63d609f1bbec5a52a3a67ebb59b17f575bf779d8eb0100a69827"), looks := true }, kinds := [], alts := [], laidByText := true, laidKinds := [.data, .data, .data, .data, .sentinel, .sentinel, .pinned], laidTests := true, laidLooks := .later }
def ApplyTextsUptoCardSaid : Prop := Claim7.holds Tryz.pinned (.plain (OpenSpec.upto applyTextsSpec)) applyTextsUptoCard
end Rows
end Go.Proofs.YtkdfdcodkeclmaaGreatDoor
