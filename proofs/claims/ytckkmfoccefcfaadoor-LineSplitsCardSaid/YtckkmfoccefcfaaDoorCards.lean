/-
  DERIVED. GIVEN WITH THE SEED: THE CARDS: each row of YtckkmfoccefcfaaDoorRows.lean that lists a variable, with what it lists TIED to the program's text (the seventh form; the later family's looks); each row that meets fmt, with fmt's text TOLD by the authors' own Lean function (tested against real Go, not proved from fmt's source: count such statements apart). THE CARD IS WHAT COUNTS. Prove the row's statement (the work); the ties are given (YtckkmfoccefcfaaDoorTie.lean); close each card by the builder's one call (the guide's Derived/Test/ToyasCard.lean, 'card_holds'). Laid BY PROGRAM, IN A SANDBOX (cutbox-door.mjs). By AI agents, Wed Nov 11 2026. No macro, syntax, notation, axiom, sorry.
-/
import Derived.Test.YtckkmfoccefcfaaDoorRows
import GoSem.ClaimSeven
namespace Go.Proofs.YtckkmfoccefcfaaDoor
namespace Rows

/-- THE TIED CARD OF 'cattlecreeplaw.LineSplits'. -/
def lineSplitsCard : Claim7 := { stood := { row := lineSplitsRow, standIns := [], harness := (true, "93bc9a975b77aaa9b29c13626f3698bacf72e73ab7d6b792b5457bc1f26dcfc8"), looks := false }, kinds := [], alts := [], laidByText := true, laidKinds := [.data, .pinned], laidTests := true, laidLooks := .later }
def LineSplitsCardSaid : Prop := Claim7.holds Tryd.pinned (.plain (OpenSpec.ofChange lineSplitsSpec)) lineSplitsCard

/-- THE SECOND FORM's CARD OF 'cattlecreeplaw.LineSplits'. -/
def lineSplitsUptoCard : Claim7 := { stood := { row := lineSplitsUptoRow, standIns := [], harness := (true, "93bc9a975b77aaa9b29c13626f3698bacf72e73ab7d6b792b5457bc1f26dcfc8"), looks := false }, kinds := [], alts := [], laidByText := true, laidKinds := [.data, .pinned], laidTests := true, laidLooks := .later }
def LineSplitsUptoCardSaid : Prop := Claim7.holds Tryd.pinned (.plain (OpenSpec.upto lineSplitsSpec)) lineSplitsUptoCard
end Rows
end Go.Proofs.YtckkmfoccefcfaaDoor
