/-
  No cell of these rows narrows 'for every input' (looked for: loops, veiled, ifaces, maps, wideKeys, modest, calm, conditions, laid).
  DERIVED. THE GIVEN ROWS OF THIS SEAT. 12 by the template 'for every input the law returns true; each argument reads behind the call as it read before'; 0 by the template 'total and deterministic' (their statements: YtcbjngndlofpfaaTotals.lean).
  GIVEN WITH THE SEED: the statements are not yours to turn. If you find one false, say at which input.
  Laid BY PROGRAM, IN A SANDBOX (cutbox-rows.mjs): the forced cells as the released guide's own fill.sh prints them over the translation 55fbc6a2213a0dc5… (all of the seat's roots in one cut). By AI agents, Wed Nov 11 2026. No macro, syntax, notation, axiom, sorry.
-/
import Derived.Test.YtcbjngndlofpfaaChecked
import GoSem.Claim
import GoSem.ClaimJoined
import GoSem.ClaimMapViews
import Derived.JoinedTies
import Derived.KernelRfl
namespace Go.Proofs.Ytcbjngndlofpfaa
/- THE CELL 'sum', in the pinned program and in every row, IS THE sha256 OF THE DUMP (.gsa) THAT YtcbjngndlofpfaaProg.lean LOADS. Nothing in Lean hashes anything: it is a label: what it is worth is what the hold of that sum in a sandbox is worth. -/
noncomputable def Try.pinned : Pinned := { name := "ytcbjngndlofpfaa", sum := "55fbc6a2213a0dc533ce1539f254b0c56080dc73ecbe171da6c33833e6a23ad9", checked := Try.checked }
namespace Rows
def none {H : Type} : Left H := { results := [], args := [] }

/-- 'cattlecreeplaw.Names': WHATEVER THE INPUT: true; the input reads as it did. -/
def namesSpec : ChangeSpec := { name := "names", fn := fun _ => fun
  | [] => { results := [.lit (.bool true)], args := [] }
  | _ => none }
def namesRow : OpenClaim := { program := "ytcbjngndlofpfaa", sum := "55fbc6a2213a0dc533ce1539f254b0c56080dc73ecbe171da6c33833e6a23ad9", func := "cattlecreep/cattlecreeplaw.Names", spec := "names", apart := false }
def NamesSaid : Prop := namesRow.holds Try.pinned (OpenSpec.ofChange namesSpec)

/-- ITS FALSE NEIGHBOUR: 'it returns false'. Refute it at one input. -/
def namesWrong : ChangeSpec := { name := "names", fn := fun _ => fun
  | [] => { results := [.lit (.bool false)], args := [] }
  | _ => none }
def NamesWrongFalsely : Prop := namesRow.holds Try.pinned (OpenSpec.ofChange namesWrong)

/-- 'cattlecreeplaw.ShaPads': WHATEVER THE INPUT: true; the input reads as it did. -/
def shaPadsSpec : ChangeSpec := { name := "shaPads", fn := fun _ => fun
  | [d] => { results := [.lit (.bool true)], args := [d] }
  | _ => none }
def shaPadsRow : OpenClaim := { program := "ytcbjngndlofpfaa", sum := "55fbc6a2213a0dc533ce1539f254b0c56080dc73ecbe171da6c33833e6a23ad9", func := "cattlecreep/cattlecreeplaw.ShaPads", spec := "shaPads", apart := false }
def ShaPadsSaid : Prop := shaPadsRow.holds Try.pinned (OpenSpec.ofChange shaPadsSpec)

/-- ITS FALSE NEIGHBOUR: 'it returns false'. Refute it at one input. -/
def shaPadsWrong : ChangeSpec := { name := "shaPads", fn := fun _ => fun
  | [d] => { results := [.lit (.bool false)], args := [d] }
  | _ => none }
def ShaPadsWrongFalsely : Prop := shaPadsRow.holds Try.pinned (OpenSpec.ofChange shaPadsWrong)

/-- 'cattlecreeplaw.NetChecks': WHATEVER THE INPUT: true; the input reads as it did. -/
def netChecksSpec : ChangeSpec := { name := "netChecks", fn := fun _ => fun
  | [d1, d2, d3] => { results := [.lit (.bool true)], args := [d1, d2, d3] }
  | _ => none }
def netChecksRow : OpenClaim := { program := "ytcbjngndlofpfaa", sum := "55fbc6a2213a0dc533ce1539f254b0c56080dc73ecbe171da6c33833e6a23ad9", func := "cattlecreep/cattlecreeplaw.NetChecks", spec := "netChecks", apart := false }
def NetChecksSaid : Prop := netChecksRow.holds Try.pinned (OpenSpec.ofChange netChecksSpec)

/-- ITS FALSE NEIGHBOUR: 'it returns false'. Refute it at one input. -/
def netChecksWrong : ChangeSpec := { name := "netChecks", fn := fun _ => fun
  | [d1, d2, d3] => { results := [.lit (.bool false)], args := [d1, d2, d3] }
  | _ => none }
def NetChecksWrongFalsely : Prop := netChecksRow.holds Try.pinned (OpenSpec.ofChange netChecksWrong)

/-- 'cattlecreeplaw.TableSeeks': WHATEVER THE INPUT: true; the input reads as it did. -/
def tableSeeksSpec : ChangeSpec := { name := "tableSeeks", fn := fun _ => fun
  | [d1, d2] => { results := [.lit (.bool true)], args := [d1, d2] }
  | _ => none }
def tableSeeksRow : OpenClaim := { program := "ytcbjngndlofpfaa", sum := "55fbc6a2213a0dc533ce1539f254b0c56080dc73ecbe171da6c33833e6a23ad9", func := "cattlecreep/cattlecreeplaw.TableSeeks", spec := "tableSeeks", apart := false }
def TableSeeksSaid : Prop := tableSeeksRow.holds Try.pinned (OpenSpec.ofChange tableSeeksSpec)

/-- ITS FALSE NEIGHBOUR: 'it returns false'. Refute it at one input. -/
def tableSeeksWrong : ChangeSpec := { name := "tableSeeks", fn := fun _ => fun
  | [d1, d2] => { results := [.lit (.bool false)], args := [d1, d2] }
  | _ => none }
def TableSeeksWrongFalsely : Prop := tableSeeksRow.holds Try.pinned (OpenSpec.ofChange tableSeeksWrong)

/-- 'cattlecreeplaw.HexChecks': WHATEVER THE INPUT: true; the input reads as it did. -/
def hexChecksSpec : ChangeSpec := { name := "hexChecks", fn := fun _ => fun
  | [d] => { results := [.lit (.bool true)], args := [d] }
  | _ => none }
def hexChecksRow : OpenClaim := { program := "ytcbjngndlofpfaa", sum := "55fbc6a2213a0dc533ce1539f254b0c56080dc73ecbe171da6c33833e6a23ad9", func := "cattlecreep/cattlecreeplaw.HexChecks", spec := "hexChecks", inPlace := ["internal/bytealg.IndexByteString"], apart := false }
def HexChecksSaid : Prop := hexChecksRow.holds Try.pinned (OpenSpec.ofChange hexChecksSpec)

/-- ITS FALSE NEIGHBOUR: 'it returns false'. Refute it at one input. -/
def hexChecksWrong : ChangeSpec := { name := "hexChecks", fn := fun _ => fun
  | [d] => { results := [.lit (.bool false)], args := [d] }
  | _ => none }
def HexChecksWrongFalsely : Prop := hexChecksRow.holds Try.pinned (OpenSpec.ofChange hexChecksWrong)

/-- 'cattlecreeplaw.WindowChecks': WHATEVER THE INPUT: true; the input reads as it did. -/
def windowChecksSpec : ChangeSpec := { name := "windowChecks", fn := fun _ => fun
  | [d1, d2] => { results := [.lit (.bool true)], args := [d1, d2] }
  | _ => none }
def windowChecksRow : OpenClaim := { program := "ytcbjngndlofpfaa", sum := "55fbc6a2213a0dc533ce1539f254b0c56080dc73ecbe171da6c33833e6a23ad9", func := "cattlecreep/cattlecreeplaw.WindowChecks", spec := "windowChecks", apart := false }
def WindowChecksSaid : Prop := windowChecksRow.holds Try.pinned (OpenSpec.ofChange windowChecksSpec)

/-- ITS FALSE NEIGHBOUR: 'it returns false'. Refute it at one input. -/
def windowChecksWrong : ChangeSpec := { name := "windowChecks", fn := fun _ => fun
  | [d1, d2] => { results := [.lit (.bool false)], args := [d1, d2] }
  | _ => none }
def WindowChecksWrongFalsely : Prop := windowChecksRow.holds Try.pinned (OpenSpec.ofChange windowChecksWrong)

/-- 'cattlecreeplaw.PacketEncodes': WHATEVER THE INPUT: true; the input reads as it did. -/
def packetEncodesSpec : ChangeSpec := { name := "packetEncodes", fn := fun _ => fun
  | [d] => { results := [.lit (.bool true)], args := [d] }
  | _ => none }
def packetEncodesRow : OpenClaim := { program := "ytcbjngndlofpfaa", sum := "55fbc6a2213a0dc533ce1539f254b0c56080dc73ecbe171da6c33833e6a23ad9", func := "cattlecreep/cattlecreeplaw.PacketEncodes", spec := "packetEncodes", apart := false }
def PacketEncodesSaid : Prop := packetEncodesRow.holds Try.pinned (OpenSpec.ofChange packetEncodesSpec)

/-- ITS FALSE NEIGHBOUR: 'it returns false'. Refute it at one input. -/
def packetEncodesWrong : ChangeSpec := { name := "packetEncodes", fn := fun _ => fun
  | [d] => { results := [.lit (.bool false)], args := [d] }
  | _ => none }
def PacketEncodesWrongFalsely : Prop := packetEncodesRow.holds Try.pinned (OpenSpec.ofChange packetEncodesWrong)

/-- 'cattlecreeplaw.NetJoins': WHATEVER THE INPUT: true; the input reads as it did. -/
def netJoinsSpec : ChangeSpec := { name := "netJoins", fn := fun _ => fun
  | [d1, d2] => { results := [.lit (.bool true)], args := [d1, d2] }
  | _ => none }
def netJoinsRow : OpenClaim := { program := "ytcbjngndlofpfaa", sum := "55fbc6a2213a0dc533ce1539f254b0c56080dc73ecbe171da6c33833e6a23ad9", func := "cattlecreep/cattlecreeplaw.NetJoins", spec := "netJoins", apart := false }
def NetJoinsSaid : Prop := netJoinsRow.holds Try.pinned (OpenSpec.ofChange netJoinsSpec)

/-- ITS FALSE NEIGHBOUR: 'it returns false'. Refute it at one input. -/
def netJoinsWrong : ChangeSpec := { name := "netJoins", fn := fun _ => fun
  | [d1, d2] => { results := [.lit (.bool false)], args := [d1, d2] }
  | _ => none }
def NetJoinsWrongFalsely : Prop := netJoinsRow.holds Try.pinned (OpenSpec.ofChange netJoinsWrong)

/-- 'cattlecreeplaw.WindowTakes': WHATEVER THE INPUT: true; the input reads as it did. -/
def windowTakesSpec : ChangeSpec := { name := "windowTakes", fn := fun _ => fun
  | [d1, d2] => { results := [.lit (.bool true)], args := [d1, d2] }
  | _ => none }
def windowTakesRow : OpenClaim := { program := "ytcbjngndlofpfaa", sum := "55fbc6a2213a0dc533ce1539f254b0c56080dc73ecbe171da6c33833e6a23ad9", func := "cattlecreep/cattlecreeplaw.WindowTakes", spec := "windowTakes", apart := false }
def WindowTakesSaid : Prop := windowTakesRow.holds Try.pinned (OpenSpec.ofChange windowTakesSpec)

/-- ITS FALSE NEIGHBOUR: 'it returns false'. Refute it at one input. -/
def windowTakesWrong : ChangeSpec := { name := "windowTakes", fn := fun _ => fun
  | [d1, d2] => { results := [.lit (.bool false)], args := [d1, d2] }
  | _ => none }
def WindowTakesWrongFalsely : Prop := windowTakesRow.holds Try.pinned (OpenSpec.ofChange windowTakesWrong)

/-- 'cattlecreeplaw.NetHolds': WHATEVER THE INPUT: true; the input reads as it did. -/
def netHoldsSpec : ChangeSpec := { name := "netHolds", fn := fun _ => fun
  | [d1, d2, d3] => { results := [.lit (.bool true)], args := [d1, d2, d3] }
  | _ => none }
def netHoldsRow : OpenClaim := { program := "ytcbjngndlofpfaa", sum := "55fbc6a2213a0dc533ce1539f254b0c56080dc73ecbe171da6c33833e6a23ad9", func := "cattlecreep/cattlecreeplaw.NetHolds", spec := "netHolds", apart := false }
def NetHoldsSaid : Prop := netHoldsRow.holds Try.pinned (OpenSpec.ofChange netHoldsSpec)

/-- ITS FALSE NEIGHBOUR: 'it returns false'. Refute it at one input. -/
def netHoldsWrong : ChangeSpec := { name := "netHolds", fn := fun _ => fun
  | [d1, d2, d3] => { results := [.lit (.bool false)], args := [d1, d2, d3] }
  | _ => none }
def NetHoldsWrongFalsely : Prop := netHoldsRow.holds Try.pinned (OpenSpec.ofChange netHoldsWrong)

/-- 'cattlecreeplaw.TrieChecks': WHATEVER THE INPUT: true; the input reads as it did. -/
def trieChecksSpec : ChangeSpec := { name := "trieChecks", fn := fun _ => fun
  | [d] => { results := [.lit (.bool true)], args := [d] }
  | _ => none }
def trieChecksRow : OpenClaim := { program := "ytcbjngndlofpfaa", sum := "55fbc6a2213a0dc533ce1539f254b0c56080dc73ecbe171da6c33833e6a23ad9", func := "cattlecreep/cattlecreeplaw.TrieChecks", spec := "trieChecks", recurses := true, apart := false }
def TrieChecksSaid : Prop := trieChecksRow.holds Try.pinned (OpenSpec.ofChange trieChecksSpec)

/-- ITS FALSE NEIGHBOUR: 'it returns false'. Refute it at one input. -/
def trieChecksWrong : ChangeSpec := { name := "trieChecks", fn := fun _ => fun
  | [d] => { results := [.lit (.bool false)], args := [d] }
  | _ => none }
def TrieChecksWrongFalsely : Prop := trieChecksRow.holds Try.pinned (OpenSpec.ofChange trieChecksWrong)

/-- 'cattlecreeplaw.HexTells': WHATEVER THE INPUT: true; the input reads as it did. -/
def hexTellsSpec : ChangeSpec := { name := "hexTells", fn := fun _ => fun
  | [d1, d2] => { results := [.lit (.bool true)], args := [d1, d2] }
  | _ => none }
def hexTellsRow : OpenClaim := { program := "ytcbjngndlofpfaa", sum := "55fbc6a2213a0dc533ce1539f254b0c56080dc73ecbe171da6c33833e6a23ad9", func := "cattlecreep/cattlecreeplaw.HexTells", spec := "hexTells", inPlace := ["internal/abi.NoEscape", "internal/bytealg.IndexByteString"], apart := false }
def HexTellsSaid : Prop := hexTellsRow.holds Try.pinned (OpenSpec.ofChange hexTellsSpec)

/-- ITS FALSE NEIGHBOUR: 'it returns false'. Refute it at one input. -/
def hexTellsWrong : ChangeSpec := { name := "hexTells", fn := fun _ => fun
  | [d1, d2] => { results := [.lit (.bool false)], args := [d1, d2] }
  | _ => none }
def HexTellsWrongFalsely : Prop := hexTellsRow.holds Try.pinned (OpenSpec.ofChange hexTellsWrong)

/- THE SECOND FORM. 'bulk': how many values and letters a reading holds, each counted each time it is reached (what is shared counts as often as it is met; a slice's spare places count too). A statement '..UptoSaid' is the law's where the arguments, and the package variables that the reading takes, are together of bulk at most 1048576: NARROWER than '..Said'. Prove '..Said' where nothing that the law and all that it calls make is longer than what came in: it says more and counts as full. Else prove '..UptoSaid'. A law counts once. -/
mutual
def uptoBulk {H : Type} : DataW H → Nat
  | .lit (.string bytes) => bytes.length + 1
  | .lit _ => 1
  | .nil => 1
  | .ptr d => uptoBulk d + 1
  | .slice elems spare => uptoBulkAll elems + uptoBulkAll spare + 1
  | .agg parts => uptoBulkAll parts + 1
  | .iface _ d => uptoBulk d + 1
  | .map entries => uptoBulkEntries entries + 1
  | .held _ => 1
def uptoBulkAll {H : Type} : List (DataW H) → Nat
  | [] => 0
  | d :: r => uptoBulk d + uptoBulkAll r
def uptoBulkEntries {H : Type} : List (Lit × DataW H) → Nat
  | [] => 0
  | x :: r => uptoBulkEntry x + uptoBulkEntries r
def uptoBulkEntry {H : Type} : Lit × DataW H → Nat
  | (.string bytes, d) => bytes.length + uptoBulk d + 1
  | (_, d) => uptoBulk d + 1
 end
def uptoSmall : (H : Type) → List (DataW H) → Bool := fun _ ds => decide (uptoBulkAll ds ≤ 1048576)
def OpenSpec.upto (s : _root_.Go.ChangeSpec) : _root_.Go.OpenSpec := { _root_.Go.OpenSpec.ofChange s with cond := some uptoSmall }

/-- 'cattlecreeplaw.Names', WHERE WHAT IT READS IS OF BULK AT MOST 1048576: true; the input reads as it did. -/
def namesUptoRow : OpenClaim := { program := "ytcbjngndlofpfaa", sum := "55fbc6a2213a0dc533ce1539f254b0c56080dc73ecbe171da6c33833e6a23ad9", func := "cattlecreep/cattlecreeplaw.Names", spec := "names", apart := false, narrowed := true }
def NamesUptoSaid : Prop := namesUptoRow.holds Try.pinned (OpenSpec.upto namesSpec)

/-- 'cattlecreeplaw.ShaPads', WHERE WHAT IT READS IS OF BULK AT MOST 1048576: true; the input reads as it did. -/
def shaPadsUptoRow : OpenClaim := { program := "ytcbjngndlofpfaa", sum := "55fbc6a2213a0dc533ce1539f254b0c56080dc73ecbe171da6c33833e6a23ad9", func := "cattlecreep/cattlecreeplaw.ShaPads", spec := "shaPads", apart := false, narrowed := true }
def ShaPadsUptoSaid : Prop := shaPadsUptoRow.holds Try.pinned (OpenSpec.upto shaPadsSpec)

/-- 'cattlecreeplaw.NetChecks', WHERE WHAT IT READS IS OF BULK AT MOST 1048576: true; the input reads as it did. -/
def netChecksUptoRow : OpenClaim := { program := "ytcbjngndlofpfaa", sum := "55fbc6a2213a0dc533ce1539f254b0c56080dc73ecbe171da6c33833e6a23ad9", func := "cattlecreep/cattlecreeplaw.NetChecks", spec := "netChecks", apart := false, narrowed := true }
def NetChecksUptoSaid : Prop := netChecksUptoRow.holds Try.pinned (OpenSpec.upto netChecksSpec)

/-- 'cattlecreeplaw.TableSeeks', WHERE WHAT IT READS IS OF BULK AT MOST 1048576: true; the input reads as it did. -/
def tableSeeksUptoRow : OpenClaim := { program := "ytcbjngndlofpfaa", sum := "55fbc6a2213a0dc533ce1539f254b0c56080dc73ecbe171da6c33833e6a23ad9", func := "cattlecreep/cattlecreeplaw.TableSeeks", spec := "tableSeeks", apart := false, narrowed := true }
def TableSeeksUptoSaid : Prop := tableSeeksUptoRow.holds Try.pinned (OpenSpec.upto tableSeeksSpec)

/-- 'cattlecreeplaw.HexChecks', WHERE WHAT IT READS IS OF BULK AT MOST 1048576: true; the input reads as it did. -/
def hexChecksUptoRow : OpenClaim := { program := "ytcbjngndlofpfaa", sum := "55fbc6a2213a0dc533ce1539f254b0c56080dc73ecbe171da6c33833e6a23ad9", func := "cattlecreep/cattlecreeplaw.HexChecks", spec := "hexChecks", inPlace := ["internal/bytealg.IndexByteString"], apart := false, narrowed := true }
def HexChecksUptoSaid : Prop := hexChecksUptoRow.holds Try.pinned (OpenSpec.upto hexChecksSpec)

/-- 'cattlecreeplaw.WindowChecks', WHERE WHAT IT READS IS OF BULK AT MOST 1048576: true; the input reads as it did. -/
def windowChecksUptoRow : OpenClaim := { program := "ytcbjngndlofpfaa", sum := "55fbc6a2213a0dc533ce1539f254b0c56080dc73ecbe171da6c33833e6a23ad9", func := "cattlecreep/cattlecreeplaw.WindowChecks", spec := "windowChecks", apart := false, narrowed := true }
def WindowChecksUptoSaid : Prop := windowChecksUptoRow.holds Try.pinned (OpenSpec.upto windowChecksSpec)

/-- 'cattlecreeplaw.PacketEncodes', WHERE WHAT IT READS IS OF BULK AT MOST 1048576: true; the input reads as it did. -/
def packetEncodesUptoRow : OpenClaim := { program := "ytcbjngndlofpfaa", sum := "55fbc6a2213a0dc533ce1539f254b0c56080dc73ecbe171da6c33833e6a23ad9", func := "cattlecreep/cattlecreeplaw.PacketEncodes", spec := "packetEncodes", apart := false, narrowed := true }
def PacketEncodesUptoSaid : Prop := packetEncodesUptoRow.holds Try.pinned (OpenSpec.upto packetEncodesSpec)

/-- 'cattlecreeplaw.NetJoins', WHERE WHAT IT READS IS OF BULK AT MOST 1048576: true; the input reads as it did. -/
def netJoinsUptoRow : OpenClaim := { program := "ytcbjngndlofpfaa", sum := "55fbc6a2213a0dc533ce1539f254b0c56080dc73ecbe171da6c33833e6a23ad9", func := "cattlecreep/cattlecreeplaw.NetJoins", spec := "netJoins", apart := false, narrowed := true }
def NetJoinsUptoSaid : Prop := netJoinsUptoRow.holds Try.pinned (OpenSpec.upto netJoinsSpec)

/-- 'cattlecreeplaw.WindowTakes', WHERE WHAT IT READS IS OF BULK AT MOST 1048576: true; the input reads as it did. -/
def windowTakesUptoRow : OpenClaim := { program := "ytcbjngndlofpfaa", sum := "55fbc6a2213a0dc533ce1539f254b0c56080dc73ecbe171da6c33833e6a23ad9", func := "cattlecreep/cattlecreeplaw.WindowTakes", spec := "windowTakes", apart := false, narrowed := true }
def WindowTakesUptoSaid : Prop := windowTakesUptoRow.holds Try.pinned (OpenSpec.upto windowTakesSpec)

/-- 'cattlecreeplaw.NetHolds', WHERE WHAT IT READS IS OF BULK AT MOST 1048576: true; the input reads as it did. -/
def netHoldsUptoRow : OpenClaim := { program := "ytcbjngndlofpfaa", sum := "55fbc6a2213a0dc533ce1539f254b0c56080dc73ecbe171da6c33833e6a23ad9", func := "cattlecreep/cattlecreeplaw.NetHolds", spec := "netHolds", apart := false, narrowed := true }
def NetHoldsUptoSaid : Prop := netHoldsUptoRow.holds Try.pinned (OpenSpec.upto netHoldsSpec)

/-- 'cattlecreeplaw.TrieChecks', WHERE WHAT IT READS IS OF BULK AT MOST 1048576: true; the input reads as it did. -/
def trieChecksUptoRow : OpenClaim := { program := "ytcbjngndlofpfaa", sum := "55fbc6a2213a0dc533ce1539f254b0c56080dc73ecbe171da6c33833e6a23ad9", func := "cattlecreep/cattlecreeplaw.TrieChecks", spec := "trieChecks", recurses := true, apart := false, narrowed := true }
def TrieChecksUptoSaid : Prop := trieChecksUptoRow.holds Try.pinned (OpenSpec.upto trieChecksSpec)

/-- 'cattlecreeplaw.HexTells', WHERE WHAT IT READS IS OF BULK AT MOST 1048576: true; the input reads as it did. -/
def hexTellsUptoRow : OpenClaim := { program := "ytcbjngndlofpfaa", sum := "55fbc6a2213a0dc533ce1539f254b0c56080dc73ecbe171da6c33833e6a23ad9", func := "cattlecreep/cattlecreeplaw.HexTells", spec := "hexTells", inPlace := ["internal/abi.NoEscape", "internal/bytealg.IndexByteString"], apart := false, narrowed := true }
def HexTellsUptoSaid : Prop := hexTellsUptoRow.holds Try.pinned (OpenSpec.upto hexTellsSpec)

end Rows
end Go.Proofs.Ytcbjngndlofpfaa
