/-
  DERIVED. GIVEN WITH THE SEED: THE CARDS: each row of YtdiljgkijgiboaaGreatDoorRows.lean that lists a variable, with what it lists TIED to the program's text (the seventh form; the later family's looks); each row that meets fmt, with fmt's text TOLD by the authors' own Lean function (tested against real Go, not proved from fmt's source: count such statements apart). THE CARD IS WHAT COUNTS. Prove the row's statement (the work); the ties are given (YtdiljgkijgiboaaGreatDoorTie.lean); close each card by the builder's one call (the guide's Derived/Test/ToyasCard.lean, 'card_holds'). Laid BY PROGRAM, IN A SANDBOX (cutbox-door.mjs). By AI agents, Wed Nov 11 2026. No macro, syntax, notation, axiom, sorry.
-/
import Derived.Test.YtdiljgkijgiboaaGreatDoorRows
import GoSem.ClaimSeven
namespace Go.Proofs.YtdiljgkijgiboaaGreatDoor
namespace Rows

/-- THE TIED CARD OF 'cattlecreeplaw.DaemonSends'. -/
def daemonSendsCard : Claim7 := { stood := { row := daemonSendsRow, standIns := [], harness := (true, "95f6f0a69da0f4d54d9df2f3024b2b00bdc1da05538ae536d15c983121c05f4d"), looks := true }, kinds := [], alts := [], laidByText := true, laidKinds := [.data, .data, .data, .data, .sentinel, .sentinel, .pinned], laidTests := true, laidLooks := .later }
def DaemonSendsCardSaid : Prop := Claim7.holds Tryz.pinned (.plain (OpenSpec.ofChange daemonSendsSpec)) daemonSendsCard

/-- THE SECOND FORM's CARD OF 'cattlecreeplaw.DaemonSends'. -/
def daemonSendsUptoCard : Claim7 := { stood := { row := daemonSendsUptoRow, standIns := [], harness := (true, "95f6f0a69da0f4d54d9df2f3024b2b00bdc1da05538ae536d15c983121c05f4d"), looks := true }, kinds := [], alts := [], laidByText := true, laidKinds := [.data, .data, .data, .data, .sentinel, .sentinel, .pinned], laidTests := true, laidLooks := .later }
def DaemonSendsUptoCardSaid : Prop := Claim7.holds Tryz.pinned (.plain (OpenSpec.upto daemonSendsSpec)) daemonSendsUptoCard
end Rows
end Go.Proofs.YtdiljgkijgiboaaGreatDoor
