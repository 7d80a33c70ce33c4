/-
  DERIVED. GIVEN WITH THE SEED: THE CARDS: each row of YtbjdjclkbjpebaaGreatDoorRows.lean that lists a variable, with what it lists TIED to the program's text (the seventh form; the later family's looks); each row that meets fmt, with fmt's text TOLD by the authors' own Lean function (tested against real Go, not proved from fmt's source: count such statements apart). THE CARD IS WHAT COUNTS. Prove the row's statement (the work); the ties are given (YtbjdjclkbjpebaaGreatDoorTie.lean); close each card by the builder's one call (the guide's Derived/Test/ToyasCard.lean, 'card_holds'). Laid BY PROGRAM, IN A SANDBOX (cutbox-door.mjs). By AI agents, Wed Nov 11 2026. No macro, syntax, notation, axiom, sorry.
-/
import Derived.Test.YtbjdjclkbjpebaaGreatDoorRows
import GoSem.ClaimSeven
namespace Go.Proofs.YtbjdjclkbjpebaaGreatDoor
namespace Rows

/-- THE TIED CARD OF 'cattlecreeplaw.DaemonTicks'. -/
def daemonTicksCard : Claim7 := { stood := { row := daemonTicksRow, standIns := [], harness := (true, "3099e2c182a06879c0494aaf05a3d49e39e958418f98ed5f0b9eb9ba5085e4aa"), looks := true }, kinds := [], alts := [], laidByText := true, laidKinds := [.data, .data, .data, .data, .sentinel, .sentinel, .pinned], laidTests := true, laidLooks := .later }
def DaemonTicksCardSaid : Prop := Claim7.holds Tryz.pinned (.plain (OpenSpec.ofChange daemonTicksSpec)) daemonTicksCard

/-- THE SECOND FORM's CARD OF 'cattlecreeplaw.DaemonTicks'. -/
def daemonTicksUptoCard : Claim7 := { stood := { row := daemonTicksUptoRow, standIns := [], harness := (true, "3099e2c182a06879c0494aaf05a3d49e39e958418f98ed5f0b9eb9ba5085e4aa"), looks := true }, kinds := [], alts := [], laidByText := true, laidKinds := [.data, .data, .data, .data, .sentinel, .sentinel, .pinned], laidTests := true, laidLooks := .later }
def DaemonTicksUptoCardSaid : Prop := Claim7.holds Tryz.pinned (.plain (OpenSpec.upto daemonTicksSpec)) daemonTicksUptoCard
end Rows
end Go.Proofs.YtbjdjclkbjpebaaGreatDoor
