/-
  No cell of these rows narrows 'for every input' (looked for: loops, veiled, ifaces, maps, wideKeys, modest, calm, conditions, laid).
  DERIVED. THE GIVEN ROWS OF THIS SEAT. 12 by the template 'for every input the law returns true; each argument reads behind the call as it read before'; 0 by the template 'total and deterministic' (their statements: YtfnipohlkifkhaaTotals.lean).
  GIVEN WITH THE SEED: the statements are not yours to turn. If you find one false, say at which input.
  Laid BY PROGRAM, IN A SANDBOX (cutbox-rows.mjs): the forced cells as the released guide's own fill.sh prints them over the translation e81c7ffb52b199e9… (all of the seat's roots in one cut). By AI agents, Wed Nov 11 2026. No macro, syntax, notation, axiom, sorry.
-/
import Derived.Test.YtfnipohlkifkhaaChecked
import GoSem.Claim
import GoSem.ClaimJoined
import GoSem.ClaimMapViews
import Derived.JoinedTies
import Derived.KernelRfl
namespace Go.Proofs.Ytfnipohlkifkhaa
/- THE CELL 'sum', in the pinned program and in every row, IS THE sha256 OF THE DUMP (.gsa) THAT YtfnipohlkifkhaaProg.lean LOADS. Nothing in Lean hashes anything: it is a label: what it is worth is what the hold of that sum in a sandbox is worth. -/
noncomputable def Try.pinned : Pinned := { name := "ytfnipohlkifkhaa", sum := "e81c7ffb52b199e9ebcc6268ea422277ba98f2b01055b9b002b2966ab90fb567", checked := Try.checked }
namespace Rows
def none {H : Type} : Left H := { results := [], args := [] }

/-- 'cattlecreeplaw.TrieChecks': WHATEVER THE INPUT: true; the input reads as it did. -/
def trieChecksSpec : ChangeSpec := { name := "trieChecks", fn := fun _ => fun
  | [d] => { results := [.lit (.bool true)], args := [d] }
  | _ => none }
def trieChecksRow : OpenClaim := { program := "ytfnipohlkifkhaa", sum := "e81c7ffb52b199e9ebcc6268ea422277ba98f2b01055b9b002b2966ab90fb567", func := "cattlecreep/cattlecreeplaw.TrieChecks", spec := "trieChecks", recurses := true, apart := false }
def TrieChecksSaid : Prop := trieChecksRow.holds Try.pinned (OpenSpec.ofChange trieChecksSpec)

/-- ITS FALSE NEIGHBOUR: 'it returns false'. Refute it at one input. -/
def trieChecksWrong : ChangeSpec := { name := "trieChecks", fn := fun _ => fun
  | [d] => { results := [.lit (.bool false)], args := [d] }
  | _ => none }
def TrieChecksWrongFalsely : Prop := trieChecksRow.holds Try.pinned (OpenSpec.ofChange trieChecksWrong)

/-- 'cattlecreeplaw.TrieFinds': WHATEVER THE INPUT: true; the input reads as it did. -/
def trieFindsSpec : ChangeSpec := { name := "trieFinds", fn := fun _ => fun
  | [d1, d2] => { results := [.lit (.bool true)], args := [d1, d2] }
  | _ => none }
def trieFindsRow : OpenClaim := { program := "ytfnipohlkifkhaa", sum := "e81c7ffb52b199e9ebcc6268ea422277ba98f2b01055b9b002b2966ab90fb567", func := "cattlecreep/cattlecreeplaw.TrieFinds", spec := "trieFinds", recurses := true, apart := false }
def TrieFindsSaid : Prop := trieFindsRow.holds Try.pinned (OpenSpec.ofChange trieFindsSpec)

/-- ITS FALSE NEIGHBOUR: 'it returns false'. Refute it at one input. -/
def trieFindsWrong : ChangeSpec := { name := "trieFinds", fn := fun _ => fun
  | [d1, d2] => { results := [.lit (.bool false)], args := [d1, d2] }
  | _ => none }
def TrieFindsWrongFalsely : Prop := trieFindsRow.holds Try.pinned (OpenSpec.ofChange trieFindsWrong)

/-- 'cattlecreeplaw.TrieDrops': WHATEVER THE INPUT: true; the input reads as it did. -/
def trieDropsSpec : ChangeSpec := { name := "trieDrops", fn := fun _ => fun
  | [d1, d2] => { results := [.lit (.bool true)], args := [d1, d2] }
  | _ => none }
def trieDropsRow : OpenClaim := { program := "ytfnipohlkifkhaa", sum := "e81c7ffb52b199e9ebcc6268ea422277ba98f2b01055b9b002b2966ab90fb567", func := "cattlecreep/cattlecreeplaw.TrieDrops", spec := "trieDrops", unfollowed := true, recurses := true, apart := false }
def TrieDropsSaid : Prop := trieDropsRow.holds Try.pinned (OpenSpec.ofChange trieDropsSpec)

/-- ITS FALSE NEIGHBOUR: 'it returns false'. Refute it at one input. -/
def trieDropsWrong : ChangeSpec := { name := "trieDrops", fn := fun _ => fun
  | [d1, d2] => { results := [.lit (.bool false)], args := [d1, d2] }
  | _ => none }
def TrieDropsWrongFalsely : Prop := trieDropsRow.holds Try.pinned (OpenSpec.ofChange trieDropsWrong)

/-- 'cattlecreeplaw.TrieGets': WHATEVER THE INPUT: true; the input reads as it did. -/
def trieGetsSpec : ChangeSpec := { name := "trieGets", fn := fun _ => fun
  | [d1, d2] => { results := [.lit (.bool true)], args := [d1, d2] }
  | _ => none }
def trieGetsRow : OpenClaim := { program := "ytfnipohlkifkhaa", sum := "e81c7ffb52b199e9ebcc6268ea422277ba98f2b01055b9b002b2966ab90fb567", func := "cattlecreep/cattlecreeplaw.TrieGets", spec := "trieGets", unfollowed := true, recurses := true, apart := false }
def TrieGetsSaid : Prop := trieGetsRow.holds Try.pinned (OpenSpec.ofChange trieGetsSpec)

/-- ITS FALSE NEIGHBOUR: 'it returns false'. Refute it at one input. -/
def trieGetsWrong : ChangeSpec := { name := "trieGets", fn := fun _ => fun
  | [d1, d2] => { results := [.lit (.bool false)], args := [d1, d2] }
  | _ => none }
def TrieGetsWrongFalsely : Prop := trieGetsRow.holds Try.pinned (OpenSpec.ofChange trieGetsWrong)

/-- 'cattlecreeplaw.TriePuts': WHATEVER THE INPUT: true; the input reads as it did. -/
def triePutsSpec : ChangeSpec := { name := "triePuts", fn := fun _ => fun
  | [d1, d2, d3] => { results := [.lit (.bool true)], args := [d1, d2, d3] }
  | _ => none }
def triePutsRow : OpenClaim := { program := "ytfnipohlkifkhaa", sum := "e81c7ffb52b199e9ebcc6268ea422277ba98f2b01055b9b002b2966ab90fb567", func := "cattlecreep/cattlecreeplaw.TriePuts", spec := "triePuts", unfollowed := true, recurses := true, apart := false }
def TriePutsSaid : Prop := triePutsRow.holds Try.pinned (OpenSpec.ofChange triePutsSpec)

/-- ITS FALSE NEIGHBOUR: 'it returns false'. Refute it at one input. -/
def triePutsWrong : ChangeSpec := { name := "triePuts", fn := fun _ => fun
  | [d1, d2, d3] => { results := [.lit (.bool false)], args := [d1, d2, d3] }
  | _ => none }
def TriePutsWrongFalsely : Prop := triePutsRow.holds Try.pinned (OpenSpec.ofChange triePutsWrong)

/-- 'cattlecreeplaw.PacketDecodes': WHATEVER THE INPUT: true; the input reads as it did. -/
def packetDecodesSpec : ChangeSpec := { name := "packetDecodes", fn := fun _ => fun
  | [d] => { results := [.lit (.bool true)], args := [d] }
  | _ => none }
def packetDecodesRow : OpenClaim := { program := "ytfnipohlkifkhaa", sum := "e81c7ffb52b199e9ebcc6268ea422277ba98f2b01055b9b002b2966ab90fb567", func := "cattlecreep/cattlecreeplaw.PacketDecodes", spec := "packetDecodes", apart := false }
def PacketDecodesSaid : Prop := packetDecodesRow.holds Try.pinned (OpenSpec.ofChange packetDecodesSpec)

/-- ITS FALSE NEIGHBOUR: 'it returns false'. Refute it at one input. -/
def packetDecodesWrong : ChangeSpec := { name := "packetDecodes", fn := fun _ => fun
  | [d] => { results := [.lit (.bool false)], args := [d] }
  | _ => none }
def PacketDecodesWrongFalsely : Prop := packetDecodesRow.holds Try.pinned (OpenSpec.ofChange packetDecodesWrong)

/-- 'cattlecreeplaw.KeysChecks': WHATEVER THE INPUT: true; the input reads as it did. -/
def keysChecksSpec : ChangeSpec := { name := "keysChecks", fn := fun _ => fun
  | [d1, d2] => { results := [.lit (.bool true)], args := [d1, d2] }
  | _ => none }
def keysChecksRow : OpenClaim := { program := "ytfnipohlkifkhaa", sum := "e81c7ffb52b199e9ebcc6268ea422277ba98f2b01055b9b002b2966ab90fb567", func := "cattlecreep/cattlecreeplaw.KeysChecks", spec := "keysChecks", inPlace := ["internal/bytealg.IndexByteString"], unfollowed := true, recurses := true, apart := false }
def KeysChecksSaid : Prop := keysChecksRow.holds Try.pinned (OpenSpec.ofChange keysChecksSpec)

/-- ITS FALSE NEIGHBOUR: 'it returns false'. Refute it at one input. -/
def keysChecksWrong : ChangeSpec := { name := "keysChecks", fn := fun _ => fun
  | [d1, d2] => { results := [.lit (.bool false)], args := [d1, d2] }
  | _ => none }
def KeysChecksWrongFalsely : Prop := keysChecksRow.holds Try.pinned (OpenSpec.ofChange keysChecksWrong)

/-- 'cattlecreeplaw.TableTakes': WHATEVER THE INPUT: true; the input reads as it did. -/
def tableTakesSpec : ChangeSpec := { name := "tableTakes", fn := fun _ => fun
  | [d1, d2] => { results := [.lit (.bool true)], args := [d1, d2] }
  | _ => none }
def tableTakesRow : OpenClaim := { program := "ytfnipohlkifkhaa", sum := "e81c7ffb52b199e9ebcc6268ea422277ba98f2b01055b9b002b2966ab90fb567", func := "cattlecreep/cattlecreeplaw.TableTakes", spec := "tableTakes", inPlace := ["internal/bytealg.IndexByteString"], unfollowed := true, recurses := true, apart := false }
def TableTakesSaid : Prop := tableTakesRow.holds Try.pinned (OpenSpec.ofChange tableTakesSpec)

/-- ITS FALSE NEIGHBOUR: 'it returns false'. Refute it at one input. -/
def tableTakesWrong : ChangeSpec := { name := "tableTakes", fn := fun _ => fun
  | [d1, d2] => { results := [.lit (.bool false)], args := [d1, d2] }
  | _ => none }
def TableTakesWrongFalsely : Prop := tableTakesRow.holds Try.pinned (OpenSpec.ofChange tableTakesWrong)

/-- 'cattlecreeplaw.LineJoins': WHATEVER THE INPUT: true; the input reads as it did. -/
def lineJoinsSpec : ChangeSpec := { name := "lineJoins", fn := fun _ => fun
  | [d] => { results := [.lit (.bool true)], args := [d] }
  | _ => none }
def lineJoinsRow : OpenClaim := { program := "ytfnipohlkifkhaa", sum := "e81c7ffb52b199e9ebcc6268ea422277ba98f2b01055b9b002b2966ab90fb567", func := "cattlecreep/cattlecreeplaw.LineJoins", spec := "lineJoins", inPlace := ["internal/abi.NoEscape", "internal/bytealg.MakeNoZero"], apart := false }
def LineJoinsSaid : Prop := lineJoinsRow.holds Try.pinned (OpenSpec.ofChange lineJoinsSpec)

/-- ITS FALSE NEIGHBOUR: 'it returns false'. Refute it at one input. -/
def lineJoinsWrong : ChangeSpec := { name := "lineJoins", fn := fun _ => fun
  | [d] => { results := [.lit (.bool false)], args := [d] }
  | _ => none }
def LineJoinsWrongFalsely : Prop := lineJoinsRow.holds Try.pinned (OpenSpec.ofChange lineJoinsWrong)

/-- 'cattlecreeplaw.WireEncodes': WHATEVER THE INPUT: true; the input reads as it did. -/
def wireEncodesSpec : ChangeSpec := { name := "wireEncodes", fn := fun _ => fun
  | [d] => { results := [.lit (.bool true)], args := [d] }
  | _ => none }
def wireEncodesRow : OpenClaim := { program := "ytfnipohlkifkhaa", sum := "e81c7ffb52b199e9ebcc6268ea422277ba98f2b01055b9b002b2966ab90fb567", func := "cattlecreep/cattlecreeplaw.WireEncodes", spec := "wireEncodes", inPlace := ["internal/bytealg.IndexByteString", "internal/bytealg.IndexString"], named := ["internal/bytealg.MaxLen"], apart := false }
def WireEncodesSaid : Prop := wireEncodesRow.holds Try.pinned (OpenSpec.ofChange wireEncodesSpec)

/-- ITS FALSE NEIGHBOUR: 'it returns false'. Refute it at one input. -/
def wireEncodesWrong : ChangeSpec := { name := "wireEncodes", fn := fun _ => fun
  | [d] => { results := [.lit (.bool false)], args := [d] }
  | _ => none }
def WireEncodesWrongFalsely : Prop := wireEncodesRow.holds Try.pinned (OpenSpec.ofChange wireEncodesWrong)

/-- 'cattlecreeplaw.WireDecodes': WHATEVER THE INPUT: true; the input reads as it did. -/
def wireDecodesSpec : ChangeSpec := { name := "wireDecodes", fn := fun _ => fun
  | [d] => { results := [.lit (.bool true)], args := [d] }
  | _ => none }
def wireDecodesRow : OpenClaim := { program := "ytfnipohlkifkhaa", sum := "e81c7ffb52b199e9ebcc6268ea422277ba98f2b01055b9b002b2966ab90fb567", func := "cattlecreep/cattlecreeplaw.WireDecodes", spec := "wireDecodes", inPlace := ["internal/bytealg.IndexByteString", "internal/bytealg.IndexString"], named := ["internal/bytealg.MaxLen"], apart := false }
def WireDecodesSaid : Prop := wireDecodesRow.holds Try.pinned (OpenSpec.ofChange wireDecodesSpec)

/-- ITS FALSE NEIGHBOUR: 'it returns false'. Refute it at one input. -/
def wireDecodesWrong : ChangeSpec := { name := "wireDecodes", fn := fun _ => fun
  | [d] => { results := [.lit (.bool false)], args := [d] }
  | _ => none }
def WireDecodesWrongFalsely : Prop := wireDecodesRow.holds Try.pinned (OpenSpec.ofChange wireDecodesWrong)

/-- 'cattlecreeplaw.HexTells': WHATEVER THE INPUT: true; the input reads as it did. -/
def hexTellsSpec : ChangeSpec := { name := "hexTells", fn := fun _ => fun
  | [d1, d2] => { results := [.lit (.bool true)], args := [d1, d2] }
  | _ => none }
def hexTellsRow : OpenClaim := { program := "ytfnipohlkifkhaa", sum := "e81c7ffb52b199e9ebcc6268ea422277ba98f2b01055b9b002b2966ab90fb567", func := "cattlecreep/cattlecreeplaw.HexTells", spec := "hexTells", inPlace := ["internal/abi.NoEscape", "internal/bytealg.IndexByteString"], apart := false }
def HexTellsSaid : Prop := hexTellsRow.holds Try.pinned (OpenSpec.ofChange hexTellsSpec)

/-- ITS FALSE NEIGHBOUR: 'it returns false'. Refute it at one input. -/
def hexTellsWrong : ChangeSpec := { name := "hexTells", fn := fun _ => fun
  | [d1, d2] => { results := [.lit (.bool false)], args := [d1, d2] }
  | _ => none }
def HexTellsWrongFalsely : Prop := hexTellsRow.holds Try.pinned (OpenSpec.ofChange hexTellsWrong)

/- THE SECOND FORM. 'bulk': how many values and letters a reading holds, each counted each time it is reached (what is shared counts as often as it is met; a slice's spare places count too). A statement '..UptoSaid' is the law's where the arguments, and the package variables that the reading takes, are together of bulk at most 1048576: NARROWER than '..Said'. Prove '..Said' where nothing that the law and all that it calls make is longer than what came in: it says more and counts as full. Else prove '..UptoSaid'. A law counts once. -/
mutual
def uptoBulk {H : Type} : DataW H → Nat
  | .lit (.string bytes) => bytes.length + 1
  | .lit _ => 1
  | .nil => 1
  | .ptr d => uptoBulk d + 1
  | .slice elems spare => uptoBulkAll elems + uptoBulkAll spare + 1
  | .agg parts => uptoBulkAll parts + 1
  | .iface _ d => uptoBulk d + 1
  | .map entries => uptoBulkEntries entries + 1
  | .held _ => 1
def uptoBulkAll {H : Type} : List (DataW H) → Nat
  | [] => 0
  | d :: r => uptoBulk d + uptoBulkAll r
def uptoBulkEntries {H : Type} : List (Lit × DataW H) → Nat
  | [] => 0
  | x :: r => uptoBulkEntry x + uptoBulkEntries r
def uptoBulkEntry {H : Type} : Lit × DataW H → Nat
  | (.string bytes, d) => bytes.length + uptoBulk d + 1
  | (_, d) => uptoBulk d + 1
 end
def uptoSmall : (H : Type) → List (DataW H) → Bool := fun _ ds => decide (uptoBulkAll ds ≤ 1048576)
def OpenSpec.upto (s : _root_.Go.ChangeSpec) : _root_.Go.OpenSpec := { _root_.Go.OpenSpec.ofChange s with cond := some uptoSmall }

/-- 'cattlecreeplaw.TrieChecks', WHERE WHAT IT READS IS OF BULK AT MOST 1048576: true; the input reads as it did. -/
def trieChecksUptoRow : OpenClaim := { program := "ytfnipohlkifkhaa", sum := "e81c7ffb52b199e9ebcc6268ea422277ba98f2b01055b9b002b2966ab90fb567", func := "cattlecreep/cattlecreeplaw.TrieChecks", spec := "trieChecks", recurses := true, apart := false, narrowed := true }
def TrieChecksUptoSaid : Prop := trieChecksUptoRow.holds Try.pinned (OpenSpec.upto trieChecksSpec)

/-- 'cattlecreeplaw.TrieFinds', WHERE WHAT IT READS IS OF BULK AT MOST 1048576: true; the input reads as it did. -/
def trieFindsUptoRow : OpenClaim := { program := "ytfnipohlkifkhaa", sum := "e81c7ffb52b199e9ebcc6268ea422277ba98f2b01055b9b002b2966ab90fb567", func := "cattlecreep/cattlecreeplaw.TrieFinds", spec := "trieFinds", recurses := true, apart := false, narrowed := true }
def TrieFindsUptoSaid : Prop := trieFindsUptoRow.holds Try.pinned (OpenSpec.upto trieFindsSpec)

/-- 'cattlecreeplaw.TrieDrops', WHERE WHAT IT READS IS OF BULK AT MOST 1048576: true; the input reads as it did. -/
def trieDropsUptoRow : OpenClaim := { program := "ytfnipohlkifkhaa", sum := "e81c7ffb52b199e9ebcc6268ea422277ba98f2b01055b9b002b2966ab90fb567", func := "cattlecreep/cattlecreeplaw.TrieDrops", spec := "trieDrops", unfollowed := true, recurses := true, apart := false, narrowed := true }
def TrieDropsUptoSaid : Prop := trieDropsUptoRow.holds Try.pinned (OpenSpec.upto trieDropsSpec)

/-- 'cattlecreeplaw.TrieGets', WHERE WHAT IT READS IS OF BULK AT MOST 1048576: true; the input reads as it did. -/
def trieGetsUptoRow : OpenClaim := { program := "ytfnipohlkifkhaa", sum := "e81c7ffb52b199e9ebcc6268ea422277ba98f2b01055b9b002b2966ab90fb567", func := "cattlecreep/cattlecreeplaw.TrieGets", spec := "trieGets", unfollowed := true, recurses := true, apart := false, narrowed := true }
def TrieGetsUptoSaid : Prop := trieGetsUptoRow.holds Try.pinned (OpenSpec.upto trieGetsSpec)

/-- 'cattlecreeplaw.TriePuts', WHERE WHAT IT READS IS OF BULK AT MOST 1048576: true; the input reads as it did. -/
def triePutsUptoRow : OpenClaim := { program := "ytfnipohlkifkhaa", sum := "e81c7ffb52b199e9ebcc6268ea422277ba98f2b01055b9b002b2966ab90fb567", func := "cattlecreep/cattlecreeplaw.TriePuts", spec := "triePuts", unfollowed := true, recurses := true, apart := false, narrowed := true }
def TriePutsUptoSaid : Prop := triePutsUptoRow.holds Try.pinned (OpenSpec.upto triePutsSpec)

/-- 'cattlecreeplaw.PacketDecodes', WHERE WHAT IT READS IS OF BULK AT MOST 1048576: true; the input reads as it did. -/
def packetDecodesUptoRow : OpenClaim := { program := "ytfnipohlkifkhaa", sum := "e81c7ffb52b199e9ebcc6268ea422277ba98f2b01055b9b002b2966ab90fb567", func := "cattlecreep/cattlecreeplaw.PacketDecodes", spec := "packetDecodes", apart := false, narrowed := true }
def PacketDecodesUptoSaid : Prop := packetDecodesUptoRow.holds Try.pinned (OpenSpec.upto packetDecodesSpec)

/-- 'cattlecreeplaw.KeysChecks', WHERE WHAT IT READS IS OF BULK AT MOST 1048576: true; the input reads as it did. -/
def keysChecksUptoRow : OpenClaim := { program := "ytfnipohlkifkhaa", sum := "e81c7ffb52b199e9ebcc6268ea422277ba98f2b01055b9b002b2966ab90fb567", func := "cattlecreep/cattlecreeplaw.KeysChecks", spec := "keysChecks", inPlace := ["internal/bytealg.IndexByteString"], unfollowed := true, recurses := true, apart := false, narrowed := true }
def KeysChecksUptoSaid : Prop := keysChecksUptoRow.holds Try.pinned (OpenSpec.upto keysChecksSpec)

/-- 'cattlecreeplaw.TableTakes', WHERE WHAT IT READS IS OF BULK AT MOST 1048576: true; the input reads as it did. -/
def tableTakesUptoRow : OpenClaim := { program := "ytfnipohlkifkhaa", sum := "e81c7ffb52b199e9ebcc6268ea422277ba98f2b01055b9b002b2966ab90fb567", func := "cattlecreep/cattlecreeplaw.TableTakes", spec := "tableTakes", inPlace := ["internal/bytealg.IndexByteString"], unfollowed := true, recurses := true, apart := false, narrowed := true }
def TableTakesUptoSaid : Prop := tableTakesUptoRow.holds Try.pinned (OpenSpec.upto tableTakesSpec)

/-- 'cattlecreeplaw.LineJoins', WHERE WHAT IT READS IS OF BULK AT MOST 1048576: true; the input reads as it did. -/
def lineJoinsUptoRow : OpenClaim := { program := "ytfnipohlkifkhaa", sum := "e81c7ffb52b199e9ebcc6268ea422277ba98f2b01055b9b002b2966ab90fb567", func := "cattlecreep/cattlecreeplaw.LineJoins", spec := "lineJoins", inPlace := ["internal/abi.NoEscape", "internal/bytealg.MakeNoZero"], apart := false, narrowed := true }
def LineJoinsUptoSaid : Prop := lineJoinsUptoRow.holds Try.pinned (OpenSpec.upto lineJoinsSpec)

/-- 'cattlecreeplaw.WireEncodes', WHERE WHAT IT READS IS OF BULK AT MOST 1048576: true; the input reads as it did. -/
def wireEncodesUptoRow : OpenClaim := { program := "ytfnipohlkifkhaa", sum := "e81c7ffb52b199e9ebcc6268ea422277ba98f2b01055b9b002b2966ab90fb567", func := "cattlecreep/cattlecreeplaw.WireEncodes", spec := "wireEncodes", inPlace := ["internal/bytealg.IndexByteString", "internal/bytealg.IndexString"], named := ["internal/bytealg.MaxLen"], apart := false, narrowed := true }
def WireEncodesUptoSaid : Prop := wireEncodesUptoRow.holds Try.pinned (OpenSpec.upto wireEncodesSpec)

/-- 'cattlecreeplaw.WireDecodes', WHERE WHAT IT READS IS OF BULK AT MOST 1048576: true; the input reads as it did. -/
def wireDecodesUptoRow : OpenClaim := { program := "ytfnipohlkifkhaa", sum := "e81c7ffb52b199e9ebcc6268ea422277ba98f2b01055b9b002b2966ab90fb567", func := "cattlecreep/cattlecreeplaw.WireDecodes", spec := "wireDecodes", inPlace := ["internal/bytealg.IndexByteString", "internal/bytealg.IndexString"], named := ["internal/bytealg.MaxLen"], apart := false, narrowed := true }
def WireDecodesUptoSaid : Prop := wireDecodesUptoRow.holds Try.pinned (OpenSpec.upto wireDecodesSpec)

/-- 'cattlecreeplaw.HexTells', WHERE WHAT IT READS IS OF BULK AT MOST 1048576: true; the input reads as it did. -/
def hexTellsUptoRow : OpenClaim := { program := "ytfnipohlkifkhaa", sum := "e81c7ffb52b199e9ebcc6268ea422277ba98f2b01055b9b002b2966ab90fb567", func := "cattlecreep/cattlecreeplaw.HexTells", spec := "hexTells", inPlace := ["internal/abi.NoEscape", "internal/bytealg.IndexByteString"], apart := false, narrowed := true }
def HexTellsUptoSaid : Prop := hexTellsUptoRow.holds Try.pinned (OpenSpec.upto hexTellsSpec)

end Rows
end Go.Proofs.Ytfnipohlkifkhaa
