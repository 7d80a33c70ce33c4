/-
  No cell of these rows narrows 'for every input' (looked for: loops, veiled, ifaces, maps, wideKeys, modest, calm, conditions, laid).
  DERIVED. THE GIVEN ROWS OF THIS SEAT. 12 by the template 'for every input the law returns true; each argument reads behind the call as it read before'; 0 by the template 'total and deterministic' (their statements: YtgbgpidimipfjaaTotals.lean).
  GIVEN WITH THE SEED: the statements are not yours to turn. If you find one false, say at which input.
  Laid BY PROGRAM, IN A SANDBOX (cutbox-rows.mjs): the forced cells as the released guide's own fill.sh prints them over the translation 296479803dc6b14d… (all of the seat's roots in one cut). By AI agents, Wed Nov 11 2026. No macro, syntax, notation, axiom, sorry.
-/
import Derived.Test.YtgbgpidimipfjaaChecked
import GoSem.Claim
import GoSem.ClaimJoined
import GoSem.ClaimMapViews
import Derived.JoinedTies
import Derived.KernelRfl
namespace Go.Proofs.Ytgbgpidimipfjaa
/- THE CELL 'sum', in the pinned program and in every row, IS THE sha256 OF THE DUMP (.gsa) THAT YtgbgpidimipfjaaProg.lean LOADS. Nothing in Lean hashes anything: it is a label: what it is worth is what the hold of that sum in a sandbox is worth. -/
noncomputable def Try.pinned : Pinned := { name := "ytgbgpidimipfjaa", sum := "296479803dc6b14d1076ff00622edfd503353073dc792d915e42496f20159750", checked := Try.checked }
namespace Rows
def none {H : Type} : Left H := { results := [], args := [] }

/-- 'cattlecreeplaw.PacketDecodes': WHATEVER THE INPUT: true; the input reads as it did. -/
def packetDecodesSpec : ChangeSpec := { name := "packetDecodes", fn := fun _ => fun
  | [d] => { results := [.lit (.bool true)], args := [d] }
  | _ => none }
def packetDecodesRow : OpenClaim := { program := "ytgbgpidimipfjaa", sum := "296479803dc6b14d1076ff00622edfd503353073dc792d915e42496f20159750", func := "cattlecreep/cattlecreeplaw.PacketDecodes", spec := "packetDecodes", apart := false }
def PacketDecodesSaid : Prop := packetDecodesRow.holds Try.pinned (OpenSpec.ofChange packetDecodesSpec)

/-- ITS FALSE NEIGHBOUR: 'it returns false'. Refute it at one input. -/
def packetDecodesWrong : ChangeSpec := { name := "packetDecodes", fn := fun _ => fun
  | [d] => { results := [.lit (.bool false)], args := [d] }
  | _ => none }
def PacketDecodesWrongFalsely : Prop := packetDecodesRow.holds Try.pinned (OpenSpec.ofChange packetDecodesWrong)

/-- 'cattlecreeplaw.ShaSums': WHATEVER THE INPUT: true; the input reads as it did. -/
def shaSumsSpec : ChangeSpec := { name := "shaSums", fn := fun _ => fun
  | [d] => { results := [.lit (.bool true)], args := [d] }
  | _ => none }
def shaSumsRow : OpenClaim := { program := "ytgbgpidimipfjaa", sum := "296479803dc6b14d1076ff00622edfd503353073dc792d915e42496f20159750", func := "cattlecreep/cattlecreeplaw.ShaSums", spec := "shaSums", apart := false }
def ShaSumsSaid : Prop := shaSumsRow.holds Try.pinned (OpenSpec.ofChange shaSumsSpec)

/-- ITS FALSE NEIGHBOUR: 'it returns false'. Refute it at one input. -/
def shaSumsWrong : ChangeSpec := { name := "shaSums", fn := fun _ => fun
  | [d] => { results := [.lit (.bool false)], args := [d] }
  | _ => none }
def ShaSumsWrongFalsely : Prop := shaSumsRow.holds Try.pinned (OpenSpec.ofChange shaSumsWrong)

/-- 'cattlecreeplaw.KeysChecks': WHATEVER THE INPUT: true; the input reads as it did. -/
def keysChecksSpec : ChangeSpec := { name := "keysChecks", fn := fun _ => fun
  | [d1, d2] => { results := [.lit (.bool true)], args := [d1, d2] }
  | _ => none }
def keysChecksRow : OpenClaim := { program := "ytgbgpidimipfjaa", sum := "296479803dc6b14d1076ff00622edfd503353073dc792d915e42496f20159750", func := "cattlecreep/cattlecreeplaw.KeysChecks", spec := "keysChecks", inPlace := ["internal/bytealg.IndexByteString"], unfollowed := true, recurses := true, apart := false }
def KeysChecksSaid : Prop := keysChecksRow.holds Try.pinned (OpenSpec.ofChange keysChecksSpec)

/-- ITS FALSE NEIGHBOUR: 'it returns false'. Refute it at one input. -/
def keysChecksWrong : ChangeSpec := { name := "keysChecks", fn := fun _ => fun
  | [d1, d2] => { results := [.lit (.bool false)], args := [d1, d2] }
  | _ => none }
def KeysChecksWrongFalsely : Prop := keysChecksRow.holds Try.pinned (OpenSpec.ofChange keysChecksWrong)

/-- 'cattlecreeplaw.TableTakes': WHATEVER THE INPUT: true; the input reads as it did. -/
def tableTakesSpec : ChangeSpec := { name := "tableTakes", fn := fun _ => fun
  | [d1, d2] => { results := [.lit (.bool true)], args := [d1, d2] }
  | _ => none }
def tableTakesRow : OpenClaim := { program := "ytgbgpidimipfjaa", sum := "296479803dc6b14d1076ff00622edfd503353073dc792d915e42496f20159750", func := "cattlecreep/cattlecreeplaw.TableTakes", spec := "tableTakes", inPlace := ["internal/bytealg.IndexByteString"], unfollowed := true, recurses := true, apart := false }
def TableTakesSaid : Prop := tableTakesRow.holds Try.pinned (OpenSpec.ofChange tableTakesSpec)

/-- ITS FALSE NEIGHBOUR: 'it returns false'. Refute it at one input. -/
def tableTakesWrong : ChangeSpec := { name := "tableTakes", fn := fun _ => fun
  | [d1, d2] => { results := [.lit (.bool false)], args := [d1, d2] }
  | _ => none }
def TableTakesWrongFalsely : Prop := tableTakesRow.holds Try.pinned (OpenSpec.ofChange tableTakesWrong)

/-- 'cattlecreeplaw.MacTags': WHATEVER THE INPUT: true; the input reads as it did. -/
def macTagsSpec : ChangeSpec := { name := "macTags", fn := fun _ => fun
  | [d1, d2] => { results := [.lit (.bool true)], args := [d1, d2] }
  | _ => none }
def macTagsRow : OpenClaim := { program := "ytgbgpidimipfjaa", sum := "296479803dc6b14d1076ff00622edfd503353073dc792d915e42496f20159750", func := "cattlecreep/cattlecreeplaw.MacTags", spec := "macTags", inPlace := ["internal/bytealg.IndexByteString"], apart := false }
def MacTagsSaid : Prop := macTagsRow.holds Try.pinned (OpenSpec.ofChange macTagsSpec)

/-- ITS FALSE NEIGHBOUR: 'it returns false'. Refute it at one input. -/
def macTagsWrong : ChangeSpec := { name := "macTags", fn := fun _ => fun
  | [d1, d2] => { results := [.lit (.bool false)], args := [d1, d2] }
  | _ => none }
def MacTagsWrongFalsely : Prop := macTagsRow.holds Try.pinned (OpenSpec.ofChange macTagsWrong)

/-- 'cattlecreeplaw.SealStreams': WHATEVER THE INPUT: true; the input reads as it did. -/
def sealStreamsSpec : ChangeSpec := { name := "sealStreams", fn := fun _ => fun
  | [d1, d2, d3] => { results := [.lit (.bool true)], args := [d1, d2, d3] }
  | _ => none }
def sealStreamsRow : OpenClaim := { program := "ytgbgpidimipfjaa", sum := "296479803dc6b14d1076ff00622edfd503353073dc792d915e42496f20159750", func := "cattlecreep/cattlecreeplaw.SealStreams", spec := "sealStreams", inPlace := ["internal/bytealg.IndexByteString"], apart := false }
def SealStreamsSaid : Prop := sealStreamsRow.holds Try.pinned (OpenSpec.ofChange sealStreamsSpec)

/-- ITS FALSE NEIGHBOUR: 'it returns false'. Refute it at one input. -/
def sealStreamsWrong : ChangeSpec := { name := "sealStreams", fn := fun _ => fun
  | [d1, d2, d3] => { results := [.lit (.bool false)], args := [d1, d2, d3] }
  | _ => none }
def SealStreamsWrongFalsely : Prop := sealStreamsRow.holds Try.pinned (OpenSpec.ofChange sealStreamsWrong)

/-- 'cattlecreeplaw.LineJoins': WHATEVER THE INPUT: true; the input reads as it did. -/
def lineJoinsSpec : ChangeSpec := { name := "lineJoins", fn := fun _ => fun
  | [d] => { results := [.lit (.bool true)], args := [d] }
  | _ => none }
def lineJoinsRow : OpenClaim := { program := "ytgbgpidimipfjaa", sum := "296479803dc6b14d1076ff00622edfd503353073dc792d915e42496f20159750", func := "cattlecreep/cattlecreeplaw.LineJoins", spec := "lineJoins", inPlace := ["internal/abi.NoEscape", "internal/bytealg.MakeNoZero"], apart := false }
def LineJoinsSaid : Prop := lineJoinsRow.holds Try.pinned (OpenSpec.ofChange lineJoinsSpec)

/-- ITS FALSE NEIGHBOUR: 'it returns false'. Refute it at one input. -/
def lineJoinsWrong : ChangeSpec := { name := "lineJoins", fn := fun _ => fun
  | [d] => { results := [.lit (.bool false)], args := [d] }
  | _ => none }
def LineJoinsWrongFalsely : Prop := lineJoinsRow.holds Try.pinned (OpenSpec.ofChange lineJoinsWrong)

/-- 'cattlecreeplaw.SealSeals': WHATEVER THE INPUT: true; the input reads as it did. -/
def sealSealsSpec : ChangeSpec := { name := "sealSeals", fn := fun _ => fun
  | [d1, d2, d3] => { results := [.lit (.bool true)], args := [d1, d2, d3] }
  | _ => none }
def sealSealsRow : OpenClaim := { program := "ytgbgpidimipfjaa", sum := "296479803dc6b14d1076ff00622edfd503353073dc792d915e42496f20159750", func := "cattlecreep/cattlecreeplaw.SealSeals", spec := "sealSeals", inPlace := ["internal/bytealg.IndexByteString"], apart := false }
def SealSealsSaid : Prop := sealSealsRow.holds Try.pinned (OpenSpec.ofChange sealSealsSpec)

/-- ITS FALSE NEIGHBOUR: 'it returns false'. Refute it at one input. -/
def sealSealsWrong : ChangeSpec := { name := "sealSeals", fn := fun _ => fun
  | [d1, d2, d3] => { results := [.lit (.bool false)], args := [d1, d2, d3] }
  | _ => none }
def SealSealsWrongFalsely : Prop := sealSealsRow.holds Try.pinned (OpenSpec.ofChange sealSealsWrong)

/-- 'cattlecreeplaw.MacMakes': WHATEVER THE INPUT: true; the input reads as it did. -/
def macMakesSpec : ChangeSpec := { name := "macMakes", fn := fun _ => fun
  | [d1, d2, d3, d4] => { results := [.lit (.bool true)], args := [d1, d2, d3, d4] }
  | _ => none }
def macMakesRow : OpenClaim := { program := "ytgbgpidimipfjaa", sum := "296479803dc6b14d1076ff00622edfd503353073dc792d915e42496f20159750", func := "cattlecreep/cattlecreeplaw.MacMakes", spec := "macMakes", inPlace := ["internal/bytealg.IndexByteString", "internal/abi.NoEscape"], apart := false }
def MacMakesSaid : Prop := macMakesRow.holds Try.pinned (OpenSpec.ofChange macMakesSpec)

/-- ITS FALSE NEIGHBOUR: 'it returns false'. Refute it at one input. -/
def macMakesWrong : ChangeSpec := { name := "macMakes", fn := fun _ => fun
  | [d1, d2, d3, d4] => { results := [.lit (.bool false)], args := [d1, d2, d3, d4] }
  | _ => none }
def MacMakesWrongFalsely : Prop := macMakesRow.holds Try.pinned (OpenSpec.ofChange macMakesWrong)

/-- 'cattlecreeplaw.PairNames': WHATEVER THE INPUT: true; the input reads as it did. -/
def pairNamesSpec : ChangeSpec := { name := "pairNames", fn := fun _ => fun
  | [d1, d2] => { results := [.lit (.bool true)], args := [d1, d2] }
  | _ => none }
def pairNamesRow : OpenClaim := { program := "ytgbgpidimipfjaa", sum := "296479803dc6b14d1076ff00622edfd503353073dc792d915e42496f20159750", func := "cattlecreep/cattlecreeplaw.PairNames", spec := "pairNames", inPlace := ["internal/bytealg.IndexByteString", "internal/abi.NoEscape"], apart := false }
def PairNamesSaid : Prop := pairNamesRow.holds Try.pinned (OpenSpec.ofChange pairNamesSpec)

/-- ITS FALSE NEIGHBOUR: 'it returns false'. Refute it at one input. -/
def pairNamesWrong : ChangeSpec := { name := "pairNames", fn := fun _ => fun
  | [d1, d2] => { results := [.lit (.bool false)], args := [d1, d2] }
  | _ => none }
def PairNamesWrongFalsely : Prop := pairNamesRow.holds Try.pinned (OpenSpec.ofChange pairNamesWrong)

/-- 'cattlecreeplaw.PairSecrets': WHATEVER THE INPUT: true; the input reads as it did. -/
def pairSecretsSpec : ChangeSpec := { name := "pairSecrets", fn := fun _ => fun
  | [d1, d2, d3] => { results := [.lit (.bool true)], args := [d1, d2, d3] }
  | _ => none }
def pairSecretsRow : OpenClaim := { program := "ytgbgpidimipfjaa", sum := "296479803dc6b14d1076ff00622edfd503353073dc792d915e42496f20159750", func := "cattlecreep/cattlecreeplaw.PairSecrets", spec := "pairSecrets", inPlace := ["internal/bytealg.IndexByteString", "internal/abi.NoEscape"], apart := false }
def PairSecretsSaid : Prop := pairSecretsRow.holds Try.pinned (OpenSpec.ofChange pairSecretsSpec)

/-- ITS FALSE NEIGHBOUR: 'it returns false'. Refute it at one input. -/
def pairSecretsWrong : ChangeSpec := { name := "pairSecrets", fn := fun _ => fun
  | [d1, d2, d3] => { results := [.lit (.bool false)], args := [d1, d2, d3] }
  | _ => none }
def PairSecretsWrongFalsely : Prop := pairSecretsRow.holds Try.pinned (OpenSpec.ofChange pairSecretsWrong)

/-- 'cattlecreeplaw.SealOpens': WHATEVER THE INPUT: true; the input reads as it did. -/
def sealOpensSpec : ChangeSpec := { name := "sealOpens", fn := fun _ => fun
  | [d1, d2, d3] => { results := [.lit (.bool true)], args := [d1, d2, d3] }
  | _ => none }
def sealOpensRow : OpenClaim := { program := "ytgbgpidimipfjaa", sum := "296479803dc6b14d1076ff00622edfd503353073dc792d915e42496f20159750", func := "cattlecreep/cattlecreeplaw.SealOpens", spec := "sealOpens", inPlace := ["internal/bytealg.IndexByteString"], apart := false }
def SealOpensSaid : Prop := sealOpensRow.holds Try.pinned (OpenSpec.ofChange sealOpensSpec)

/-- ITS FALSE NEIGHBOUR: 'it returns false'. Refute it at one input. -/
def sealOpensWrong : ChangeSpec := { name := "sealOpens", fn := fun _ => fun
  | [d1, d2, d3] => { results := [.lit (.bool false)], args := [d1, d2, d3] }
  | _ => none }
def SealOpensWrongFalsely : Prop := sealOpensRow.holds Try.pinned (OpenSpec.ofChange sealOpensWrong)

/- THE SECOND FORM. 'bulk': how many values and letters a reading holds, each counted each time it is reached (what is shared counts as often as it is met; a slice's spare places count too). A statement '..UptoSaid' is the law's where the arguments, and the package variables that the reading takes, are together of bulk at most 1048576: NARROWER than '..Said'. Prove '..Said' where nothing that the law and all that it calls make is longer than what came in: it says more and counts as full. Else prove '..UptoSaid'. A law counts once. -/
mutual
def uptoBulk {H : Type} : DataW H → Nat
  | .lit (.string bytes) => bytes.length + 1
  | .lit _ => 1
  | .nil => 1
  | .ptr d => uptoBulk d + 1
  | .slice elems spare => uptoBulkAll elems + uptoBulkAll spare + 1
  | .agg parts => uptoBulkAll parts + 1
  | .iface _ d => uptoBulk d + 1
  | .map entries => uptoBulkEntries entries + 1
  | .held _ => 1
def uptoBulkAll {H : Type} : List (DataW H) → Nat
  | [] => 0
  | d :: r => uptoBulk d + uptoBulkAll r
def uptoBulkEntries {H : Type} : List (Lit × DataW H) → Nat
  | [] => 0
  | x :: r => uptoBulkEntry x + uptoBulkEntries r
def uptoBulkEntry {H : Type} : Lit × DataW H → Nat
  | (.string bytes, d) => bytes.length + uptoBulk d + 1
  | (_, d) => uptoBulk d + 1
 end
def uptoSmall : (H : Type) → List (DataW H) → Bool := fun _ ds => decide (uptoBulkAll ds ≤ 1048576)
def OpenSpec.upto (s : _root_.Go.ChangeSpec) : _root_.Go.OpenSpec := { _root_.Go.OpenSpec.ofChange s with cond := some uptoSmall }

/-- 'cattlecreeplaw.PacketDecodes', WHERE WHAT IT READS IS OF BULK AT MOST 1048576: true; the input reads as it did. -/
def packetDecodesUptoRow : OpenClaim := { program := "ytgbgpidimipfjaa", sum := "296479803dc6b14d1076ff00622edfd503353073dc792d915e42496f20159750", func := "cattlecreep/cattlecreeplaw.PacketDecodes", spec := "packetDecodes", apart := false, narrowed := true }
def PacketDecodesUptoSaid : Prop := packetDecodesUptoRow.holds Try.pinned (OpenSpec.upto packetDecodesSpec)

/-- 'cattlecreeplaw.ShaSums', WHERE WHAT IT READS IS OF BULK AT MOST 1048576: true; the input reads as it did. -/
def shaSumsUptoRow : OpenClaim := { program := "ytgbgpidimipfjaa", sum := "296479803dc6b14d1076ff00622edfd503353073dc792d915e42496f20159750", func := "cattlecreep/cattlecreeplaw.ShaSums", spec := "shaSums", apart := false, narrowed := true }
def ShaSumsUptoSaid : Prop := shaSumsUptoRow.holds Try.pinned (OpenSpec.upto shaSumsSpec)

/-- 'cattlecreeplaw.KeysChecks', WHERE WHAT IT READS IS OF BULK AT MOST 1048576: true; the input reads as it did. -/
def keysChecksUptoRow : OpenClaim := { program := "ytgbgpidimipfjaa", sum := "296479803dc6b14d1076ff00622edfd503353073dc792d915e42496f20159750", func := "cattlecreep/cattlecreeplaw.KeysChecks", spec := "keysChecks", inPlace := ["internal/bytealg.IndexByteString"], unfollowed := true, recurses := true, apart := false, narrowed := true }
def KeysChecksUptoSaid : Prop := keysChecksUptoRow.holds Try.pinned (OpenSpec.upto keysChecksSpec)

/-- 'cattlecreeplaw.TableTakes', WHERE WHAT IT READS IS OF BULK AT MOST 1048576: true; the input reads as it did. -/
def tableTakesUptoRow : OpenClaim := { program := "ytgbgpidimipfjaa", sum := "296479803dc6b14d1076ff00622edfd503353073dc792d915e42496f20159750", func := "cattlecreep/cattlecreeplaw.TableTakes", spec := "tableTakes", inPlace := ["internal/bytealg.IndexByteString"], unfollowed := true, recurses := true, apart := false, narrowed := true }
def TableTakesUptoSaid : Prop := tableTakesUptoRow.holds Try.pinned (OpenSpec.upto tableTakesSpec)

/-- 'cattlecreeplaw.MacTags', WHERE WHAT IT READS IS OF BULK AT MOST 1048576: true; the input reads as it did. -/
def macTagsUptoRow : OpenClaim := { program := "ytgbgpidimipfjaa", sum := "296479803dc6b14d1076ff00622edfd503353073dc792d915e42496f20159750", func := "cattlecreep/cattlecreeplaw.MacTags", spec := "macTags", inPlace := ["internal/bytealg.IndexByteString"], apart := false, narrowed := true }
def MacTagsUptoSaid : Prop := macTagsUptoRow.holds Try.pinned (OpenSpec.upto macTagsSpec)

/-- 'cattlecreeplaw.SealStreams', WHERE WHAT IT READS IS OF BULK AT MOST 1048576: true; the input reads as it did. -/
def sealStreamsUptoRow : OpenClaim := { program := "ytgbgpidimipfjaa", sum := "296479803dc6b14d1076ff00622edfd503353073dc792d915e42496f20159750", func := "cattlecreep/cattlecreeplaw.SealStreams", spec := "sealStreams", inPlace := ["internal/bytealg.IndexByteString"], apart := false, narrowed := true }
def SealStreamsUptoSaid : Prop := sealStreamsUptoRow.holds Try.pinned (OpenSpec.upto sealStreamsSpec)

/-- 'cattlecreeplaw.LineJoins', WHERE WHAT IT READS IS OF BULK AT MOST 1048576: true; the input reads as it did. -/
def lineJoinsUptoRow : OpenClaim := { program := "ytgbgpidimipfjaa", sum := "296479803dc6b14d1076ff00622edfd503353073dc792d915e42496f20159750", func := "cattlecreep/cattlecreeplaw.LineJoins", spec := "lineJoins", inPlace := ["internal/abi.NoEscape", "internal/bytealg.MakeNoZero"], apart := false, narrowed := true }
def LineJoinsUptoSaid : Prop := lineJoinsUptoRow.holds Try.pinned (OpenSpec.upto lineJoinsSpec)

/-- 'cattlecreeplaw.SealSeals', WHERE WHAT IT READS IS OF BULK AT MOST 1048576: true; the input reads as it did. -/
def sealSealsUptoRow : OpenClaim := { program := "ytgbgpidimipfjaa", sum := "296479803dc6b14d1076ff00622edfd503353073dc792d915e42496f20159750", func := "cattlecreep/cattlecreeplaw.SealSeals", spec := "sealSeals", inPlace := ["internal/bytealg.IndexByteString"], apart := false, narrowed := true }
def SealSealsUptoSaid : Prop := sealSealsUptoRow.holds Try.pinned (OpenSpec.upto sealSealsSpec)

/-- 'cattlecreeplaw.MacMakes', WHERE WHAT IT READS IS OF BULK AT MOST 1048576: true; the input reads as it did. -/
def macMakesUptoRow : OpenClaim := { program := "ytgbgpidimipfjaa", sum := "296479803dc6b14d1076ff00622edfd503353073dc792d915e42496f20159750", func := "cattlecreep/cattlecreeplaw.MacMakes", spec := "macMakes", inPlace := ["internal/bytealg.IndexByteString", "internal/abi.NoEscape"], apart := false, narrowed := true }
def MacMakesUptoSaid : Prop := macMakesUptoRow.holds Try.pinned (OpenSpec.upto macMakesSpec)

/-- 'cattlecreeplaw.PairNames', WHERE WHAT IT READS IS OF BULK AT MOST 1048576: true; the input reads as it did. -/
def pairNamesUptoRow : OpenClaim := { program := "ytgbgpidimipfjaa", sum := "296479803dc6b14d1076ff00622edfd503353073dc792d915e42496f20159750", func := "cattlecreep/cattlecreeplaw.PairNames", spec := "pairNames", inPlace := ["internal/bytealg.IndexByteString", "internal/abi.NoEscape"], apart := false, narrowed := true }
def PairNamesUptoSaid : Prop := pairNamesUptoRow.holds Try.pinned (OpenSpec.upto pairNamesSpec)

/-- 'cattlecreeplaw.PairSecrets', WHERE WHAT IT READS IS OF BULK AT MOST 1048576: true; the input reads as it did. -/
def pairSecretsUptoRow : OpenClaim := { program := "ytgbgpidimipfjaa", sum := "296479803dc6b14d1076ff00622edfd503353073dc792d915e42496f20159750", func := "cattlecreep/cattlecreeplaw.PairSecrets", spec := "pairSecrets", inPlace := ["internal/bytealg.IndexByteString", "internal/abi.NoEscape"], apart := false, narrowed := true }
def PairSecretsUptoSaid : Prop := pairSecretsUptoRow.holds Try.pinned (OpenSpec.upto pairSecretsSpec)

/-- 'cattlecreeplaw.SealOpens', WHERE WHAT IT READS IS OF BULK AT MOST 1048576: true; the input reads as it did. -/
def sealOpensUptoRow : OpenClaim := { program := "ytgbgpidimipfjaa", sum := "296479803dc6b14d1076ff00622edfd503353073dc792d915e42496f20159750", func := "cattlecreep/cattlecreeplaw.SealOpens", spec := "sealOpens", inPlace := ["internal/bytealg.IndexByteString"], apart := false, narrowed := true }
def SealOpensUptoSaid : Prop := sealOpensUptoRow.holds Try.pinned (OpenSpec.upto sealOpensSpec)

end Rows
end Go.Proofs.Ytgbgpidimipfjaa
