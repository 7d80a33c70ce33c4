/-
  DERIVED. GIVEN WITH THE SEED: THE CARDS: each row of YtgpleldhddpcgaaGreatDoorRows.lean that lists a variable, with what it lists TIED to the program's text (the seventh form; the later family's looks); each row that meets fmt, with fmt's text TOLD by the authors' own Lean function (tested against real Go, not proved from fmt's source: count such statements apart). THE CARD IS WHAT COUNTS. Prove the row's statement (the work); the ties are given (YtgpleldhddpcgaaGreatDoorTie.lean); close each card by the builder's one call (the guide's Derived/Test/ToyasCard.lean, 'card_holds'). Laid BY PROGRAM, IN A SANDBOX (cutbox-door.mjs). By AI agents, Wed Nov 11 2026. No macro, syntax, notation, axiom, sorry.
-/
import Derived.Test.YtgpleldhddpcgaaGreatDoorRows
import GoSem.ClaimSeven
namespace Go.Proofs.YtgpleldhddpcgaaGreatDoor
namespace Rows

/-- THE TIED CARD OF 'cattlecreeplaw.ConfTrees'. -/
def confTreesCard : Claim7 := { stood := { row := confTreesRow, standIns := [], harness := (true, "14b8d35ae9e3997d557c2619e9a40aab631a5678134230c187a0657c396425bf"), looks := true }, kinds := [], alts := [], laidByText := true, laidKinds := [.data, .data, .data, .data, .sentinel, .sentinel, .pinned], laidTests := true, laidLooks := .later }
def ConfTreesCardSaid : Prop := Claim7.holds Tryz.pinned (.plain (OpenSpec.ofChange confTreesSpec)) confTreesCard

/-- THE TIED CARD OF 'cattlecreeplaw.ShowTexts'. -/
def showTextsCard : Claim7 := { stood := { row := showTextsRow, standIns := [], harness := (true, "14b8d35ae9e3997d557c2619e9a40aab631a5678134230c187a0657c396425bf"), looks := true }, kinds := [], alts := [], laidByText := true, laidKinds := [.data, .data, .data, .data, .sentinel, .sentinel, .pinned], laidTests := true, laidLooks := .later }
def ShowTextsCardSaid : Prop := Claim7.holds Tryz.pinned (.plain (OpenSpec.ofChange showTextsSpec)) showTextsCard

/-- THE TIED CARD OF 'cattlecreeplaw.StageBegins'. -/
def stageBeginsCard : Claim7 := { stood := { row := stageBeginsRow, standIns := [], harness := (true, "14b8d35ae9e3997d557c2619e9a40aab631a5678134230c187a0657c396425bf"), looks := true }, kinds := [], alts := [], laidByText := true, laidKinds := [.data, .data, .data, .data, .sentinel, .sentinel, .pinned], laidTests := true, laidLooks := .later }
def StageBeginsCardSaid : Prop := Claim7.holds Tryz.pinned (.plain (OpenSpec.ofChange stageBeginsSpec)) stageBeginsCard

/-- THE TIED CARD OF 'cattlecreeplaw.DaemonChecks'. -/
def daemonChecksCard : Claim7 := { stood := { row := daemonChecksRow, standIns := [], harness := (true, "14b8d35ae9e3997d557c2619e9a40aab631a5678134230c187a0657c396425bf"), looks := true }, kinds := [], alts := [], laidByText := true, laidKinds := [.data, .data, .data, .data, .sentinel, .sentinel, .pinned], laidTests := true, laidLooks := .later }
def DaemonChecksCardSaid : Prop := Claim7.holds Tryz.pinned (.plain (OpenSpec.ofChange daemonChecksSpec)) daemonChecksCard

/-- THE SECOND FORM's CARD OF 'cattlecreeplaw.ConfTrees'. -/
def confTreesUptoCard : Claim7 := { stood := { row := confTreesUptoRow, standIns := [], harness := (true, "14b8d35ae9e3997d557c2619e9a40aab631a5678134230c187a0657c396425bf"), looks := true }, kinds := [], alts := [], laidByText := true, laidKinds := [.data, .data, .data, .data, .sentinel, .sentinel, .pinned], laidTests := true, laidLooks := .later }
def ConfTreesUptoCardSaid : Prop := Claim7.holds Tryz.pinned (.plain (OpenSpec.upto confTreesSpec)) confTreesUptoCard

/-- THE SECOND FORM's CARD OF 'cattlecreeplaw.ShowTexts'. -/
def showTextsUptoCard : Claim7 := { stood := { row := showTextsUptoRow, standIns := [], harness := (true, "14b8d35ae9e3997d557c2619e9a40aab631a5678134230c187a0657c396425bf"), looks := true }, kinds := [], alts := [], laidByText := true, laidKinds := [.data, .data, .data, .data, .sentinel, .sentinel, .pinned], laidTests := true, laidLooks := .later }
def ShowTextsUptoCardSaid : Prop := Claim7.holds Tryz.pinned (.plain (OpenSpec.upto showTextsSpec)) showTextsUptoCard

/-- THE SECOND FORM's CARD OF 'cattlecreeplaw.StageBegins'. -/
def stageBeginsUptoCard : Claim7 := { stood := { row := stageBeginsUptoRow, standIns := [], harness := (true, "14b8d35ae9e3997d557c2619e9a40aab631a5678134230c187a0657c396425bf"), looks := true }, kinds := [], alts := [], laidByText := true, laidKinds := [.data, .data, .data, .data, .sentinel, .sentinel, .pinned], laidTests := true, laidLooks := .later }
def StageBeginsUptoCardSaid : Prop := Claim7.holds Tryz.pinned (.plain (OpenSpec.upto stageBeginsSpec)) stageBeginsUptoCard

/-- THE SECOND FORM's CARD OF 'cattlecreeplaw.DaemonChecks'. -/
def daemonChecksUptoCard : Claim7 := { stood := { row := daemonChecksUptoRow, standIns := [], harness := (true, "14b8d35ae9e3997d557c2619e9a40aab631a5678134230c187a0657c396425bf"), looks := true }, kinds := [], alts := [], laidByText := true, laidKinds := [.data, .data, .data, .data, .sentinel, .sentinel, .pinned], laidTests := true, laidLooks := .later }
def DaemonChecksUptoCardSaid : Prop := Claim7.holds Tryz.pinned (.plain (OpenSpec.upto daemonChecksSpec)) daemonChecksUptoCard
end Rows
end Go.Proofs.YtgpleldhddpcgaaGreatDoor
