/-
  DERIVED. GIVEN WITH THE SEED: THE CARDS: each row of YtlfjpippeeikdaaGreatDoorRows.lean that lists a variable, with what it lists TIED to the program's text (the seventh form; the later family's looks); each row that meets fmt, with fmt's text TOLD by the authors' own Lean function (tested against real Go, not proved from fmt's source: count such statements apart). THE CARD IS WHAT COUNTS. Prove the row's statement (the work); the ties are given (YtlfjpippeeikdaaGreatDoorTie.lean); close each card by the builder's one call (the guide's Derived/Test/ToyasCard.lean, 'card_holds'). Laid BY PROGRAM, IN A SANDBOX (cutbox-door.mjs). By AI agents, Wed Nov 11 2026. No macro, syntax, notation, axiom, sorry.
-/
import Derived.Test.YtlfjpippeeikdaaGreatDoorRows
import GoSem.ClaimSeven
namespace Go.Proofs.YtlfjpippeeikdaaGreatDoor
namespace Rows

/-- THE TIED CARD OF 'cattlecreeplaw.DaemonForces'. -/
def daemonForcesCard : Claim7 := { stood := { row := daemonForcesRow, standIns := [], harness := (true, "ef44632d0cabc379bbe802ce80e0ca9b0c94e23034203ada65a005556a6aa35c"), looks := true }, kinds := [], alts := [], laidByText := true, laidKinds := [.data, .data, .data, .data, .sentinel, .sentinel, .pinned], laidTests := true, laidLooks := .later }
def DaemonForcesCardSaid : Prop := Claim7.holds Tryz.pinned (.plain (OpenSpec.ofChange daemonForcesSpec)) daemonForcesCard

/-- THE TIED CARD OF 'cattlecreeplaw.DaemonBegins'. -/
def daemonBeginsCard : Claim7 := { stood := { row := daemonBeginsRow, standIns := [], harness := (true, "ef44632d0cabc379bbe802ce80e0ca9b0c94e23034203ada65a005556a6aa35c"), looks := true }, kinds := [], alts := [], laidByText := true, laidKinds := [.data, .data, .data, .data, .sentinel, .sentinel, .pinned], laidTests := true, laidLooks := .later }
def DaemonBeginsCardSaid : Prop := Claim7.holds Tryz.pinned (.plain (OpenSpec.ofChange daemonBeginsSpec)) daemonBeginsCard

/-- THE SECOND FORM's CARD OF 'cattlecreeplaw.DaemonForces'. -/
def daemonForcesUptoCard : Claim7 := { stood := { row := daemonForcesUptoRow, standIns := [], harness := (true, "ef44632d0cabc379bbe802ce80e0ca9b0c94e23034203ada65a005556a6aa35c"), looks := true }, kinds := [], alts := [], laidByText := true, laidKinds := [.data, .data, .data, .data, .sentinel, .sentinel, .pinned], laidTests := true, laidLooks := .later }
def DaemonForcesUptoCardSaid : Prop := Claim7.holds Tryz.pinned (.plain (OpenSpec.upto daemonForcesSpec)) daemonForcesUptoCard

/-- THE SECOND FORM's CARD OF 'cattlecreeplaw.DaemonBegins'. -/
def daemonBeginsUptoCard : Claim7 := { stood := { row := daemonBeginsUptoRow, standIns := [], harness := (true, "ef44632d0cabc379bbe802ce80e0ca9b0c94e23034203ada65a005556a6aa35c"), looks := true }, kinds := [], alts := [], laidByText := true, laidKinds := [.data, .data, .data, .data, .sentinel, .sentinel, .pinned], laidTests := true, laidLooks := .later }
def DaemonBeginsUptoCardSaid : Prop := Claim7.holds Tryz.pinned (.plain (OpenSpec.upto daemonBeginsSpec)) daemonBeginsUptoCard
end Rows
end Go.Proofs.YtlfjpippeeikdaaGreatDoor
