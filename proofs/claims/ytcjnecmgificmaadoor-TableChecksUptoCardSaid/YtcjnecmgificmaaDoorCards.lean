/-
  DERIVED. GIVEN WITH THE SEED: THE CARDS: each row of YtcjnecmgificmaaDoorRows.lean that lists a variable, with what it lists TIED to the program's text (the seventh form; the later family's looks); each row that meets fmt, with fmt's text TOLD by the authors' own Lean function (tested against real Go, not proved from fmt's source: count such statements apart). THE CARD IS WHAT COUNTS. Prove the row's statement (the work); the ties are given (YtcjnecmgificmaaDoorTie.lean); close each card by the builder's one call (the guide's Derived/Test/ToyasCard.lean, 'card_holds'). Laid BY PROGRAM, IN A SANDBOX (cutbox-door.mjs). By AI agents, Wed Nov 11 2026. No macro, syntax, notation, axiom, sorry.
-/
import Derived.Test.YtcjnecmgificmaaDoorRows
import GoSem.ClaimSeven
namespace Go.Proofs.YtcjnecmgificmaaDoor
namespace Rows

/-- THE TIED CARD OF 'cattlecreeplaw.AddrEnds'. -/
def addrEndsCard : Claim7 := { stood := { row := addrEndsRow, standIns := [], harness := (true, "d7ebe6056a652cf5106a14b396816722431d270402cb210454434b2a9411a67f"), looks := true }, kinds := [], alts := [], laidByText := true, laidKinds := [.data, .data, .data, .data, .sentinel, .sentinel, .pinned], laidTests := true, laidLooks := .later }
def AddrEndsCardSaid : Prop := Claim7.holds Tryd.pinned (.plain (OpenSpec.ofChange addrEndsSpec)) addrEndsCard

/-- THE TIED CARD OF 'cattlecreeplaw.AddrTells'. -/
def addrTellsCard : Claim7 := { stood := { row := addrTellsRow, standIns := [], harness := (true, "d7ebe6056a652cf5106a14b396816722431d270402cb210454434b2a9411a67f"), looks := true }, kinds := [], alts := [], laidByText := true, laidKinds := [.data, .data, .data, .data, .sentinel, .sentinel, .pinned], laidTests := true, laidLooks := .later }
def AddrTellsCardSaid : Prop := Claim7.holds Tryd.pinned (.plain (OpenSpec.ofChange addrTellsSpec)) addrTellsCard

/-- THE TIED CARD OF 'cattlecreeplaw.NetTells'. -/
def netTellsCard : Claim7 := { stood := { row := netTellsRow, standIns := [], harness := (true, "d7ebe6056a652cf5106a14b396816722431d270402cb210454434b2a9411a67f"), looks := true }, kinds := [], alts := [], laidByText := true, laidKinds := [.data, .data, .data, .data, .sentinel, .sentinel, .pinned], laidTests := true, laidLooks := .later }
def NetTellsCardSaid : Prop := Claim7.holds Tryd.pinned (.plain (OpenSpec.ofChange netTellsSpec)) netTellsCard

/-- THE TIED CARD OF 'cattlecreeplaw.TableChecks'. -/
def tableChecksCard : Claim7 := { stood := { row := tableChecksRow, standIns := [], harness := (true, "d7ebe6056a652cf5106a14b396816722431d270402cb210454434b2a9411a67f"), looks := true }, kinds := [], alts := [], laidByText := true, laidKinds := [.data, .data, .data, .data, .sentinel, .sentinel, .pinned], laidTests := true, laidLooks := .later }
def TableChecksCardSaid : Prop := Claim7.holds Tryd.pinned (.plain (OpenSpec.ofChange tableChecksSpec)) tableChecksCard

/-- THE TIED CARD OF 'cattlecreeplaw.ConfRights'. -/
def confRightsCard : Claim7 := { stood := { row := confRightsRow, standIns := [], harness := (true, "d7ebe6056a652cf5106a14b396816722431d270402cb210454434b2a9411a67f"), looks := true }, kinds := [], alts := [], laidByText := true, laidKinds := [.data, .data, .data, .data, .sentinel, .sentinel, .pinned], laidTests := true, laidLooks := .later }
def ConfRightsCardSaid : Prop := Claim7.holds Tryd.pinned (.plain (OpenSpec.ofChange confRightsSpec)) confRightsCard

/-- THE TIED CARD OF 'cattlecreeplaw.BatchChecks'. -/
def batchChecksCard : Claim7 := { stood := { row := batchChecksRow, standIns := [], harness := (true, "d7ebe6056a652cf5106a14b396816722431d270402cb210454434b2a9411a67f"), looks := true }, kinds := [], alts := [], laidByText := true, laidKinds := [.data, .data, .data, .data, .sentinel, .sentinel, .pinned], laidTests := true, laidLooks := .later }
def BatchChecksCardSaid : Prop := Claim7.holds Tryd.pinned (.plain (OpenSpec.ofChange batchChecksSpec)) batchChecksCard

/-- THE TIED CARD OF 'cattlecreeplaw.BatchReads'. -/
def batchReadsCard : Claim7 := { stood := { row := batchReadsRow, standIns := [], harness := (true, "d7ebe6056a652cf5106a14b396816722431d270402cb210454434b2a9411a67f"), looks := true }, kinds := [], alts := [], laidByText := true, laidKinds := [.data, .data, .data, .data, .sentinel, .sentinel, .pinned], laidTests := true, laidLooks := .later }
def BatchReadsCardSaid : Prop := Claim7.holds Tryd.pinned (.plain (OpenSpec.ofChange batchReadsSpec)) batchReadsCard

/-- THE TIED CARD OF 'cattlecreeplaw.BatchPrints'. -/
def batchPrintsCard : Claim7 := { stood := { row := batchPrintsRow, standIns := [], harness := (true, "d7ebe6056a652cf5106a14b396816722431d270402cb210454434b2a9411a67f"), looks := true }, kinds := [], alts := [], laidByText := true, laidKinds := [.data, .data, .data, .data, .sentinel, .sentinel, .pinned], laidTests := true, laidLooks := .later }
def BatchPrintsCardSaid : Prop := Claim7.holds Tryd.pinned (.plain (OpenSpec.ofChange batchPrintsSpec)) batchPrintsCard

/-- THE SECOND FORM's CARD OF 'cattlecreeplaw.AddrEnds'. -/
def addrEndsUptoCard : Claim7 := { stood := { row := addrEndsUptoRow, standIns := [], harness := (true, "d7ebe6056a652cf5106a14b396816722431d270402cb210454434b2a9411a67f"), looks := true }, kinds := [], alts := [], laidByText := true, laidKinds := [.data, .data, .data, .data, .sentinel, .sentinel, .pinned], laidTests := true, laidLooks := .later }
def AddrEndsUptoCardSaid : Prop := Claim7.holds Tryd.pinned (.plain (OpenSpec.upto addrEndsSpec)) addrEndsUptoCard

/-- THE SECOND FORM's CARD OF 'cattlecreeplaw.AddrTells'. -/
def addrTellsUptoCard : Claim7 := { stood := { row := addrTellsUptoRow, standIns := [], harness := (true, "d7ebe6056a652cf5106a14b396816722431d270402cb210454434b2a9411a67f"), looks := true }, kinds := [], alts := [], laidByText := true, laidKinds := [.data, .data, .data, .data, .sentinel, .sentinel, .pinned], laidTests := true, laidLooks := .later }
def AddrTellsUptoCardSaid : Prop := Claim7.holds Tryd.pinned (.plain (OpenSpec.upto addrTellsSpec)) addrTellsUptoCard

/-- THE SECOND FORM's CARD OF 'cattlecreeplaw.NetTells'. -/
def netTellsUptoCard : Claim7 := { stood := { row := netTellsUptoRow, standIns := [], harness := (true, "d7ebe6056a652cf5106a14b396816722431d270402cb210454434b2a9411a67f"), looks := true }, kinds := [], alts := [], laidByText := true, laidKinds := [.data, .data, .data, .data, .sentinel, .sentinel, .pinned], laidTests := true, laidLooks := .later }
def NetTellsUptoCardSaid : Prop := Claim7.holds Tryd.pinned (.plain (OpenSpec.upto netTellsSpec)) netTellsUptoCard

/-- THE SECOND FORM's CARD OF 'cattlecreeplaw.TableChecks'. -/
def tableChecksUptoCard : Claim7 := { stood := { row := tableChecksUptoRow, standIns := [], harness := (true, "d7ebe6056a652cf5106a14b396816722431d270402cb210454434b2a9411a67f"), looks := true }, kinds := [], alts := [], laidByText := true, laidKinds := [.data, .data, .data, .data, .sentinel, .sentinel, .pinned], laidTests := true, laidLooks := .later }
def TableChecksUptoCardSaid : Prop := Claim7.holds Tryd.pinned (.plain (OpenSpec.upto tableChecksSpec)) tableChecksUptoCard

/-- THE SECOND FORM's CARD OF 'cattlecreeplaw.ConfRights'. -/
def confRightsUptoCard : Claim7 := { stood := { row := confRightsUptoRow, standIns := [], harness := (true, "d7ebe6056a652cf5106a14b396816722431d270402cb210454434b2a9411a67f"), looks := true }, kinds := [], alts := [], laidByText := true, laidKinds := [.data, .data, .data, .data, .sentinel, .sentinel, .pinned], laidTests := true, laidLooks := .later }
def ConfRightsUptoCardSaid : Prop := Claim7.holds Tryd.pinned (.plain (OpenSpec.upto confRightsSpec)) confRightsUptoCard

/-- THE SECOND FORM's CARD OF 'cattlecreeplaw.BatchChecks'. -/
def batchChecksUptoCard : Claim7 := { stood := { row := batchChecksUptoRow, standIns := [], harness := (true, "d7ebe6056a652cf5106a14b396816722431d270402cb210454434b2a9411a67f"), looks := true }, kinds := [], alts := [], laidByText := true, laidKinds := [.data, .data, .data, .data, .sentinel, .sentinel, .pinned], laidTests := true, laidLooks := .later }
def BatchChecksUptoCardSaid : Prop := Claim7.holds Tryd.pinned (.plain (OpenSpec.upto batchChecksSpec)) batchChecksUptoCard

/-- THE SECOND FORM's CARD OF 'cattlecreeplaw.BatchReads'. -/
def batchReadsUptoCard : Claim7 := { stood := { row := batchReadsUptoRow, standIns := [], harness := (true, "d7ebe6056a652cf5106a14b396816722431d270402cb210454434b2a9411a67f"), looks := true }, kinds := [], alts := [], laidByText := true, laidKinds := [.data, .data, .data, .data, .sentinel, .sentinel, .pinned], laidTests := true, laidLooks := .later }
def BatchReadsUptoCardSaid : Prop := Claim7.holds Tryd.pinned (.plain (OpenSpec.upto batchReadsSpec)) batchReadsUptoCard

/-- THE SECOND FORM's CARD OF 'cattlecreeplaw.BatchPrints'. -/
def batchPrintsUptoCard : Claim7 := { stood := { row := batchPrintsUptoRow, standIns := [], harness := (true, "d7ebe6056a652cf5106a14b396816722431d270402cb210454434b2a9411a67f"), looks := true }, kinds := [], alts := [], laidByText := true, laidKinds := [.data, .data, .data, .data, .sentinel, .sentinel, .pinned], laidTests := true, laidLooks := .later }
def BatchPrintsUptoCardSaid : Prop := Claim7.holds Tryd.pinned (.plain (OpenSpec.upto batchPrintsSpec)) batchPrintsUptoCard
end Rows
end Go.Proofs.YtcjnecmgificmaaDoor
