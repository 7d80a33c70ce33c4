/- The reference's SealStream and the law SealStreams, over data. -/
import Derived.Test.YtmdkfhmmhiofbaaSs2
import Derived.Test.YtmdkfhmmhiofbaaStb
namespace Go.Proofs.Ytmdkfhmmhiofbaa
open Go.RowKit Go.Sort
set_option linter.unusedVariables false
set_option linter.unusedSimpArgs false
set_option maxRecDepth 100000

theorem blkS_len (s : ByteArray) (c j : Nat) : (blkS s c j).length = 32 := macD_len _ _
theorem strm_at (s : ByteArray) (c : Nat) : ∀ (J i : Nat), i < 32 * J → (strm s c J)[i]? = (blkS s c (i / 32))[i % 32]?
  | 0, i, h => by omega
  | J + 1, i, h => by
    rw [strm_succ]
    by_cases h2 : i < 32 * J
    · rw [List.getElem?_append_left (by rw [strm_len]; exact h2)]
      exact strm_at s c J i h2
    · rw [List.getElem?_append_right (by rw [strm_len]; omega), strm_len, show i - 32 * J = i % 32 by omega, show i / 32 = J by omega]
def bbS (s : ByteArray) (c i : Nat) : List Int := if i = 0 then [] else blkS s c ((i - 1) / 32)
def blS (i : Nat) : Nat := if i = 0 then 0 else 32

end Go.Proofs.Ytmdkfhmmhiofbaa
