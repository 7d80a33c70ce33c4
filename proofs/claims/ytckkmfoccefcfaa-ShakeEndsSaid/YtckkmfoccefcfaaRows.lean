/-
  No cell of these rows narrows 'for every input' (looked for: loops, veiled, ifaces, maps, wideKeys, modest, calm, conditions, laid).
  DERIVED. THE GIVEN ROWS OF THIS SEAT. 11 by the template 'for every input the law returns true; each argument reads behind the call as it read before'; 0 by the template 'total and deterministic' (their statements: YtckkmfoccefcfaaTotals.lean).
  GIVEN WITH THE SEED: the statements are not yours to turn. If you find one false, say at which input.
  Laid BY PROGRAM, IN A SANDBOX (cutbox-rows.mjs): the forced cells as the released guide's own fill.sh prints them over the translation 8136943f63f61c85… (all of the seat's roots in one cut). By AI agents, Wed Nov 11 2026. No macro, syntax, notation, axiom, sorry.
-/
import Derived.Test.YtckkmfoccefcfaaChecked
import GoSem.Claim
import GoSem.ClaimJoined
import GoSem.ClaimMapViews
import Derived.JoinedTies
import Derived.KernelRfl
namespace Go.Proofs.Ytckkmfoccefcfaa
/- THE CELL 'sum', in the pinned program and in every row, IS THE sha256 OF THE DUMP (.gsa) THAT YtckkmfoccefcfaaProg.lean LOADS. Nothing in Lean hashes anything: it is a label: what it is worth is what the hold of that sum in a sandbox is worth. -/
noncomputable def Try.pinned : Pinned := { name := "ytckkmfoccefcfaa", sum := "8136943f63f61c856c465df3b7d5ce76497f5f936071b475f3e161b2a513a8ea", checked := Try.checked }
namespace Rows
def none {H : Type} : Left H := { results := [], args := [] }

/-- 'cattlecreeplaw.TrieChecks': WHATEVER THE INPUT: true; the input reads as it did. -/
def trieChecksSpec : ChangeSpec := { name := "trieChecks", fn := fun _ => fun
  | [d] => { results := [.lit (.bool true)], args := [d] }
  | _ => none }
def trieChecksRow : OpenClaim := { program := "ytckkmfoccefcfaa", sum := "8136943f63f61c856c465df3b7d5ce76497f5f936071b475f3e161b2a513a8ea", func := "cattlecreep/cattlecreeplaw.TrieChecks", spec := "trieChecks", recurses := true, apart := false }
def TrieChecksSaid : Prop := trieChecksRow.holds Try.pinned (OpenSpec.ofChange trieChecksSpec)

/-- ITS FALSE NEIGHBOUR: 'it returns false'. Refute it at one input. -/
def trieChecksWrong : ChangeSpec := { name := "trieChecks", fn := fun _ => fun
  | [d] => { results := [.lit (.bool false)], args := [d] }
  | _ => none }
def TrieChecksWrongFalsely : Prop := trieChecksRow.holds Try.pinned (OpenSpec.ofChange trieChecksWrong)

/-- 'cattlecreeplaw.TrieFinds': WHATEVER THE INPUT: true; the input reads as it did. -/
def trieFindsSpec : ChangeSpec := { name := "trieFinds", fn := fun _ => fun
  | [d1, d2] => { results := [.lit (.bool true)], args := [d1, d2] }
  | _ => none }
def trieFindsRow : OpenClaim := { program := "ytckkmfoccefcfaa", sum := "8136943f63f61c856c465df3b7d5ce76497f5f936071b475f3e161b2a513a8ea", func := "cattlecreep/cattlecreeplaw.TrieFinds", spec := "trieFinds", recurses := true, apart := false }
def TrieFindsSaid : Prop := trieFindsRow.holds Try.pinned (OpenSpec.ofChange trieFindsSpec)

/-- ITS FALSE NEIGHBOUR: 'it returns false'. Refute it at one input. -/
def trieFindsWrong : ChangeSpec := { name := "trieFinds", fn := fun _ => fun
  | [d1, d2] => { results := [.lit (.bool false)], args := [d1, d2] }
  | _ => none }
def TrieFindsWrongFalsely : Prop := trieFindsRow.holds Try.pinned (OpenSpec.ofChange trieFindsWrong)

/-- 'cattlecreeplaw.TrieDrops': WHATEVER THE INPUT: true; the input reads as it did. -/
def trieDropsSpec : ChangeSpec := { name := "trieDrops", fn := fun _ => fun
  | [d1, d2] => { results := [.lit (.bool true)], args := [d1, d2] }
  | _ => none }
def trieDropsRow : OpenClaim := { program := "ytckkmfoccefcfaa", sum := "8136943f63f61c856c465df3b7d5ce76497f5f936071b475f3e161b2a513a8ea", func := "cattlecreep/cattlecreeplaw.TrieDrops", spec := "trieDrops", unfollowed := true, recurses := true, apart := false }
def TrieDropsSaid : Prop := trieDropsRow.holds Try.pinned (OpenSpec.ofChange trieDropsSpec)

/-- ITS FALSE NEIGHBOUR: 'it returns false'. Refute it at one input. -/
def trieDropsWrong : ChangeSpec := { name := "trieDrops", fn := fun _ => fun
  | [d1, d2] => { results := [.lit (.bool false)], args := [d1, d2] }
  | _ => none }
def TrieDropsWrongFalsely : Prop := trieDropsRow.holds Try.pinned (OpenSpec.ofChange trieDropsWrong)

/-- 'cattlecreeplaw.TrieGets': WHATEVER THE INPUT: true; the input reads as it did. -/
def trieGetsSpec : ChangeSpec := { name := "trieGets", fn := fun _ => fun
  | [d1, d2] => { results := [.lit (.bool true)], args := [d1, d2] }
  | _ => none }
def trieGetsRow : OpenClaim := { program := "ytckkmfoccefcfaa", sum := "8136943f63f61c856c465df3b7d5ce76497f5f936071b475f3e161b2a513a8ea", func := "cattlecreep/cattlecreeplaw.TrieGets", spec := "trieGets", unfollowed := true, recurses := true, apart := false }
def TrieGetsSaid : Prop := trieGetsRow.holds Try.pinned (OpenSpec.ofChange trieGetsSpec)

/-- ITS FALSE NEIGHBOUR: 'it returns false'. Refute it at one input. -/
def trieGetsWrong : ChangeSpec := { name := "trieGets", fn := fun _ => fun
  | [d1, d2] => { results := [.lit (.bool false)], args := [d1, d2] }
  | _ => none }
def TrieGetsWrongFalsely : Prop := trieGetsRow.holds Try.pinned (OpenSpec.ofChange trieGetsWrong)

/-- 'cattlecreeplaw.TriePuts': WHATEVER THE INPUT: true; the input reads as it did. -/
def triePutsSpec : ChangeSpec := { name := "triePuts", fn := fun _ => fun
  | [d1, d2, d3] => { results := [.lit (.bool true)], args := [d1, d2, d3] }
  | _ => none }
def triePutsRow : OpenClaim := { program := "ytckkmfoccefcfaa", sum := "8136943f63f61c856c465df3b7d5ce76497f5f936071b475f3e161b2a513a8ea", func := "cattlecreep/cattlecreeplaw.TriePuts", spec := "triePuts", unfollowed := true, recurses := true, apart := false }
def TriePutsSaid : Prop := triePutsRow.holds Try.pinned (OpenSpec.ofChange triePutsSpec)

/-- ITS FALSE NEIGHBOUR: 'it returns false'. Refute it at one input. -/
def triePutsWrong : ChangeSpec := { name := "triePuts", fn := fun _ => fun
  | [d1, d2, d3] => { results := [.lit (.bool false)], args := [d1, d2, d3] }
  | _ => none }
def TriePutsWrongFalsely : Prop := triePutsRow.holds Try.pinned (OpenSpec.ofChange triePutsWrong)

/-- 'cattlecreeplaw.KeysMakes': WHATEVER THE INPUT: true; the input reads as it did. -/
def keysMakesSpec : ChangeSpec := { name := "keysMakes", fn := fun _ => fun
  | [d1, d2, d3, d4, d5, d6, d7] => { results := [.lit (.bool true)], args := [d1, d2, d3, d4, d5, d6, d7] }
  | _ => none }
def keysMakesRow : OpenClaim := { program := "ytckkmfoccefcfaa", sum := "8136943f63f61c856c465df3b7d5ce76497f5f936071b475f3e161b2a513a8ea", func := "cattlecreep/cattlecreeplaw.KeysMakes", spec := "keysMakes", inPlace := ["internal/bytealg.IndexByteString", "internal/abi.NoEscape"], unfollowed := true, recurses := true, apart := false }
def KeysMakesSaid : Prop := keysMakesRow.holds Try.pinned (OpenSpec.ofChange keysMakesSpec)

/-- ITS FALSE NEIGHBOUR: 'it returns false'. Refute it at one input. -/
def keysMakesWrong : ChangeSpec := { name := "keysMakes", fn := fun _ => fun
  | [d1, d2, d3, d4, d5, d6, d7] => { results := [.lit (.bool false)], args := [d1, d2, d3, d4, d5, d6, d7] }
  | _ => none }
def KeysMakesWrongFalsely : Prop := keysMakesRow.holds Try.pinned (OpenSpec.ofChange keysMakesWrong)

/-- 'cattlecreeplaw.KeysSeals': WHATEVER THE INPUT: true; the input reads as it did. -/
def keysSealsSpec : ChangeSpec := { name := "keysSeals", fn := fun _ => fun
  | [d1, d2, d3] => { results := [.lit (.bool true)], args := [d1, d2, d3] }
  | _ => none }
def keysSealsRow : OpenClaim := { program := "ytckkmfoccefcfaa", sum := "8136943f63f61c856c465df3b7d5ce76497f5f936071b475f3e161b2a513a8ea", func := "cattlecreep/cattlecreeplaw.KeysSeals", spec := "keysSeals", inPlace := ["internal/bytealg.IndexByteString"], unfollowed := true, recurses := true, apart := false }
def KeysSealsSaid : Prop := keysSealsRow.holds Try.pinned (OpenSpec.ofChange keysSealsSpec)

/-- ITS FALSE NEIGHBOUR: 'it returns false'. Refute it at one input. -/
def keysSealsWrong : ChangeSpec := { name := "keysSeals", fn := fun _ => fun
  | [d1, d2, d3] => { results := [.lit (.bool false)], args := [d1, d2, d3] }
  | _ => none }
def KeysSealsWrongFalsely : Prop := keysSealsRow.holds Try.pinned (OpenSpec.ofChange keysSealsWrong)

/-- 'cattlecreeplaw.KeysOpens': WHATEVER THE INPUT: true; the input reads as it did. -/
def keysOpensSpec : ChangeSpec := { name := "keysOpens", fn := fun _ => fun
  | [d1, d2, d3, d4] => { results := [.lit (.bool true)], args := [d1, d2, d3, d4] }
  | _ => none }
def keysOpensRow : OpenClaim := { program := "ytckkmfoccefcfaa", sum := "8136943f63f61c856c465df3b7d5ce76497f5f936071b475f3e161b2a513a8ea", func := "cattlecreep/cattlecreeplaw.KeysOpens", spec := "keysOpens", inPlace := ["internal/bytealg.IndexByteString"], unfollowed := true, recurses := true, apart := false }
def KeysOpensSaid : Prop := keysOpensRow.holds Try.pinned (OpenSpec.ofChange keysOpensSpec)

/-- ITS FALSE NEIGHBOUR: 'it returns false'. Refute it at one input. -/
def keysOpensWrong : ChangeSpec := { name := "keysOpens", fn := fun _ => fun
  | [d1, d2, d3, d4] => { results := [.lit (.bool false)], args := [d1, d2, d3, d4] }
  | _ => none }
def KeysOpensWrongFalsely : Prop := keysOpensRow.holds Try.pinned (OpenSpec.ofChange keysOpensWrong)

/-- 'cattlecreeplaw.ShakeHellos': WHATEVER THE INPUT: true; the input reads as it did. -/
def shakeHellosSpec : ChangeSpec := { name := "shakeHellos", fn := fun _ => fun
  | [d1, d2, d3, d4, d5] => { results := [.lit (.bool true)], args := [d1, d2, d3, d4, d5] }
  | _ => none }
def shakeHellosRow : OpenClaim := { program := "ytckkmfoccefcfaa", sum := "8136943f63f61c856c465df3b7d5ce76497f5f936071b475f3e161b2a513a8ea", func := "cattlecreep/cattlecreeplaw.ShakeHellos", spec := "shakeHellos", inPlace := ["internal/bytealg.IndexByteString", "internal/abi.NoEscape", "internal/bytealg.MakeNoZero", "internal/bytealg.IndexString"], named := ["internal/bytealg.MaxLen"], apart := false }
def ShakeHellosSaid : Prop := shakeHellosRow.holds Try.pinned (OpenSpec.ofChange shakeHellosSpec)

/-- ITS FALSE NEIGHBOUR: 'it returns false'. Refute it at one input. -/
def shakeHellosWrong : ChangeSpec := { name := "shakeHellos", fn := fun _ => fun
  | [d1, d2, d3, d4, d5] => { results := [.lit (.bool false)], args := [d1, d2, d3, d4, d5] }
  | _ => none }
def ShakeHellosWrongFalsely : Prop := shakeHellosRow.holds Try.pinned (OpenSpec.ofChange shakeHellosWrong)

/-- 'cattlecreeplaw.ShakeEnds': WHATEVER THE INPUT: true; the input reads as it did. -/
def shakeEndsSpec : ChangeSpec := { name := "shakeEnds", fn := fun _ => fun
  | [d1, d2, d3, d4, d5, d6] => { results := [.lit (.bool true)], args := [d1, d2, d3, d4, d5, d6] }
  | _ => none }
def shakeEndsRow : OpenClaim := { program := "ytckkmfoccefcfaa", sum := "8136943f63f61c856c465df3b7d5ce76497f5f936071b475f3e161b2a513a8ea", func := "cattlecreep/cattlecreeplaw.ShakeEnds", spec := "shakeEnds", inPlace := ["internal/bytealg.IndexByteString", "internal/abi.NoEscape", "internal/bytealg.MakeNoZero", "internal/bytealg.IndexString"], unfollowed := true, recurses := true, named := ["internal/bytealg.MaxLen"], apart := false }
def ShakeEndsSaid : Prop := shakeEndsRow.holds Try.pinned (OpenSpec.ofChange shakeEndsSpec)

/-- ITS FALSE NEIGHBOUR: 'it returns false'. Refute it at one input. -/
def shakeEndsWrong : ChangeSpec := { name := "shakeEnds", fn := fun _ => fun
  | [d1, d2, d3, d4, d5, d6] => { results := [.lit (.bool false)], args := [d1, d2, d3, d4, d5, d6] }
  | _ => none }
def ShakeEndsWrongFalsely : Prop := shakeEndsRow.holds Try.pinned (OpenSpec.ofChange shakeEndsWrong)

/-- 'cattlecreeplaw.ShakeAnswers': WHATEVER THE INPUT: true; the input reads as it did. -/
def shakeAnswersSpec : ChangeSpec := { name := "shakeAnswers", fn := fun _ => fun
  | [d1, d2, d3, d4, d5, d6, d7] => { results := [.lit (.bool true)], args := [d1, d2, d3, d4, d5, d6, d7] }
  | _ => none }
def shakeAnswersRow : OpenClaim := { program := "ytckkmfoccefcfaa", sum := "8136943f63f61c856c465df3b7d5ce76497f5f936071b475f3e161b2a513a8ea", func := "cattlecreep/cattlecreeplaw.ShakeAnswers", spec := "shakeAnswers", inPlace := ["internal/abi.NoEscape", "internal/bytealg.IndexByteString", "internal/bytealg.MakeNoZero", "internal/bytealg.IndexString"], unfollowed := true, recurses := true, named := ["internal/bytealg.MaxLen"], apart := false }
def ShakeAnswersSaid : Prop := shakeAnswersRow.holds Try.pinned (OpenSpec.ofChange shakeAnswersSpec)

/-- ITS FALSE NEIGHBOUR: 'it returns false'. Refute it at one input. -/
def shakeAnswersWrong : ChangeSpec := { name := "shakeAnswers", fn := fun _ => fun
  | [d1, d2, d3, d4, d5, d6, d7] => { results := [.lit (.bool false)], args := [d1, d2, d3, d4, d5, d6, d7] }
  | _ => none }
def ShakeAnswersWrongFalsely : Prop := shakeAnswersRow.holds Try.pinned (OpenSpec.ofChange shakeAnswersWrong)

/- THE SECOND FORM. 'bulk': how many values and letters a reading holds, each counted each time it is reached (what is shared counts as often as it is met; a slice's spare places count too). A statement '..UptoSaid' is the law's where the arguments, and the package variables that the reading takes, are together of bulk at most 1048576: NARROWER than '..Said'. Prove '..Said' where nothing that the law and all that it calls make is longer than what came in: it says more and counts as full. Else prove '..UptoSaid'. A law counts once. -/
mutual
def uptoBulk {H : Type} : DataW H → Nat
  | .lit (.string bytes) => bytes.length + 1
  | .lit _ => 1
  | .nil => 1
  | .ptr d => uptoBulk d + 1
  | .slice elems spare => uptoBulkAll elems + uptoBulkAll spare + 1
  | .agg parts => uptoBulkAll parts + 1
  | .iface _ d => uptoBulk d + 1
  | .map entries => uptoBulkEntries entries + 1
  | .held _ => 1
def uptoBulkAll {H : Type} : List (DataW H) → Nat
  | [] => 0
  | d :: r => uptoBulk d + uptoBulkAll r
def uptoBulkEntries {H : Type} : List (Lit × DataW H) → Nat
  | [] => 0
  | x :: r => uptoBulkEntry x + uptoBulkEntries r
def uptoBulkEntry {H : Type} : Lit × DataW H → Nat
  | (.string bytes, d) => bytes.length + uptoBulk d + 1
  | (_, d) => uptoBulk d + 1
 end
def uptoSmall : (H : Type) → List (DataW H) → Bool := fun _ ds => decide (uptoBulkAll ds ≤ 1048576)
def OpenSpec.upto (s : _root_.Go.ChangeSpec) : _root_.Go.OpenSpec := { _root_.Go.OpenSpec.ofChange s with cond := some uptoSmall }

/-- 'cattlecreeplaw.TrieChecks', WHERE WHAT IT READS IS OF BULK AT MOST 1048576: true; the input reads as it did. -/
def trieChecksUptoRow : OpenClaim := { program := "ytckkmfoccefcfaa", sum := "8136943f63f61c856c465df3b7d5ce76497f5f936071b475f3e161b2a513a8ea", func := "cattlecreep/cattlecreeplaw.TrieChecks", spec := "trieChecks", recurses := true, apart := false, narrowed := true }
def TrieChecksUptoSaid : Prop := trieChecksUptoRow.holds Try.pinned (OpenSpec.upto trieChecksSpec)

/-- 'cattlecreeplaw.TrieFinds', WHERE WHAT IT READS IS OF BULK AT MOST 1048576: true; the input reads as it did. -/
def trieFindsUptoRow : OpenClaim := { program := "ytckkmfoccefcfaa", sum := "8136943f63f61c856c465df3b7d5ce76497f5f936071b475f3e161b2a513a8ea", func := "cattlecreep/cattlecreeplaw.TrieFinds", spec := "trieFinds", recurses := true, apart := false, narrowed := true }
def TrieFindsUptoSaid : Prop := trieFindsUptoRow.holds Try.pinned (OpenSpec.upto trieFindsSpec)

/-- 'cattlecreeplaw.TrieDrops', WHERE WHAT IT READS IS OF BULK AT MOST 1048576: true; the input reads as it did. -/
def trieDropsUptoRow : OpenClaim := { program := "ytckkmfoccefcfaa", sum := "8136943f63f61c856c465df3b7d5ce76497f5f936071b475f3e161b2a513a8ea", func := "cattlecreep/cattlecreeplaw.TrieDrops", spec := "trieDrops", unfollowed := true, recurses := true, apart := false, narrowed := true }
def TrieDropsUptoSaid : Prop := trieDropsUptoRow.holds Try.pinned (OpenSpec.upto trieDropsSpec)

/-- 'cattlecreeplaw.TrieGets', WHERE WHAT IT READS IS OF BULK AT MOST 1048576: true; the input reads as it did. -/
def trieGetsUptoRow : OpenClaim := { program := "ytckkmfoccefcfaa", sum := "8136943f63f61c856c465df3b7d5ce76497f5f936071b475f3e161b2a513a8ea", func := "cattlecreep/cattlecreeplaw.TrieGets", spec := "trieGets", unfollowed := true, recurses := true, apart := false, narrowed := true }
def TrieGetsUptoSaid : Prop := trieGetsUptoRow.holds Try.pinned (OpenSpec.upto trieGetsSpec)

/-- 'cattlecreeplaw.TriePuts', WHERE WHAT IT READS IS OF BULK AT MOST 1048576: true; the input reads as it did. -/
def triePutsUptoRow : OpenClaim := { program := "ytckkmfoccefcfaa", sum := "8136943f63f61c856c465df3b7d5ce76497f5f936071b475f3e161b2a513a8ea", func := "cattlecreep/cattlecreeplaw.TriePuts", spec := "triePuts", unfollowed := true, recurses := true, apart := false, narrowed := true }
def TriePutsUptoSaid : Prop := triePutsUptoRow.holds Try.pinned (OpenSpec.upto triePutsSpec)

/-- 'cattlecreeplaw.KeysMakes', WHERE WHAT IT READS IS OF BULK AT MOST 1048576: true; the input reads as it did. -/
def keysMakesUptoRow : OpenClaim := { program := "ytckkmfoccefcfaa", sum := "8136943f63f61c856c465df3b7d5ce76497f5f936071b475f3e161b2a513a8ea", func := "cattlecreep/cattlecreeplaw.KeysMakes", spec := "keysMakes", inPlace := ["internal/bytealg.IndexByteString", "internal/abi.NoEscape"], unfollowed := true, recurses := true, apart := false, narrowed := true }
def KeysMakesUptoSaid : Prop := keysMakesUptoRow.holds Try.pinned (OpenSpec.upto keysMakesSpec)

/-- 'cattlecreeplaw.KeysSeals', WHERE WHAT IT READS IS OF BULK AT MOST 1048576: true; the input reads as it did. -/
def keysSealsUptoRow : OpenClaim := { program := "ytckkmfoccefcfaa", sum := "8136943f63f61c856c465df3b7d5ce76497f5f936071b475f3e161b2a513a8ea", func := "cattlecreep/cattlecreeplaw.KeysSeals", spec := "keysSeals", inPlace := ["internal/bytealg.IndexByteString"], unfollowed := true, recurses := true, apart := false, narrowed := true }
def KeysSealsUptoSaid : Prop := keysSealsUptoRow.holds Try.pinned (OpenSpec.upto keysSealsSpec)

/-- 'cattlecreeplaw.KeysOpens', WHERE WHAT IT READS IS OF BULK AT MOST 1048576: true; the input reads as it did. -/
def keysOpensUptoRow : OpenClaim := { program := "ytckkmfoccefcfaa", sum := "8136943f63f61c856c465df3b7d5ce76497f5f936071b475f3e161b2a513a8ea", func := "cattlecreep/cattlecreeplaw.KeysOpens", spec := "keysOpens", inPlace := ["internal/bytealg.IndexByteString"], unfollowed := true, recurses := true, apart := false, narrowed := true }
def KeysOpensUptoSaid : Prop := keysOpensUptoRow.holds Try.pinned (OpenSpec.upto keysOpensSpec)

/-- 'cattlecreeplaw.ShakeHellos', WHERE WHAT IT READS IS OF BULK AT MOST 1048576: true; the input reads as it did. -/
def shakeHellosUptoRow : OpenClaim := { program := "ytckkmfoccefcfaa", sum := "8136943f63f61c856c465df3b7d5ce76497f5f936071b475f3e161b2a513a8ea", func := "cattlecreep/cattlecreeplaw.ShakeHellos", spec := "shakeHellos", inPlace := ["internal/bytealg.IndexByteString", "internal/abi.NoEscape", "internal/bytealg.MakeNoZero", "internal/bytealg.IndexString"], named := ["internal/bytealg.MaxLen"], apart := false, narrowed := true }
def ShakeHellosUptoSaid : Prop := shakeHellosUptoRow.holds Try.pinned (OpenSpec.upto shakeHellosSpec)

/-- 'cattlecreeplaw.ShakeEnds', WHERE WHAT IT READS IS OF BULK AT MOST 1048576: true; the input reads as it did. -/
def shakeEndsUptoRow : OpenClaim := { program := "ytckkmfoccefcfaa", sum := "8136943f63f61c856c465df3b7d5ce76497f5f936071b475f3e161b2a513a8ea", func := "cattlecreep/cattlecreeplaw.ShakeEnds", spec := "shakeEnds", inPlace := ["internal/bytealg.IndexByteString", "internal/abi.NoEscape", "internal/bytealg.MakeNoZero", "internal/bytealg.IndexString"], unfollowed := true, recurses := true, named := ["internal/bytealg.MaxLen"], apart := false, narrowed := true }
def ShakeEndsUptoSaid : Prop := shakeEndsUptoRow.holds Try.pinned (OpenSpec.upto shakeEndsSpec)

/-- 'cattlecreeplaw.ShakeAnswers', WHERE WHAT IT READS IS OF BULK AT MOST 1048576: true; the input reads as it did. -/
def shakeAnswersUptoRow : OpenClaim := { program := "ytckkmfoccefcfaa", sum := "8136943f63f61c856c465df3b7d5ce76497f5f936071b475f3e161b2a513a8ea", func := "cattlecreep/cattlecreeplaw.ShakeAnswers", spec := "shakeAnswers", inPlace := ["internal/abi.NoEscape", "internal/bytealg.IndexByteString", "internal/bytealg.MakeNoZero", "internal/bytealg.IndexString"], unfollowed := true, recurses := true, named := ["internal/bytealg.MaxLen"], apart := false, narrowed := true }
def ShakeAnswersUptoSaid : Prop := shakeAnswersUptoRow.holds Try.pinned (OpenSpec.upto shakeAnswersSpec)

end Rows
end Go.Proofs.Ytckkmfoccefcfaa
