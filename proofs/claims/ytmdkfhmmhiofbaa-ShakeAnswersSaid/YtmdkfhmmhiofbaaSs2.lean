/- seal.Stream, over data. -/
import Derived.Test.YtmdkfhmmhiofbaaSs1
namespace Go.Proofs.Ytmdkfhmmhiofbaa
open Go.RowKit Go.Sort
set_option linter.unusedVariables false
set_option linter.unusedSimpArgs false
set_option maxRecDepth 100000

def FLOW : List Int := [102, 108, 111, 119]
def blkS (s : ByteArray) (c j : Nat) : List Int := macD s (FLOW ++ be8 c ++ be8 j)
def strm (s : ByteArray) (c j : Nat) : List Int := (List.range j).flatMap (blkS s c)
theorem macD_len (s : ByteArray) (b : List Int) : (macD s b).length = 32 := shaD_len _
theorem macD_B (s : ByteArray) (b : List Int) : isB (macD s b) := shaD_B _
theorem strm_succ (s : ByteArray) (c j : Nat) : strm s c (j + 1) = strm s c j ++ blkS s c j := by simp [strm, List.range_succ]
theorem strm_len (s : ByteArray) (c : Nat) : ∀ j, (strm s c j).length = 32 * j
  | 0 => rfl
  | j + 1 => by rw [strm_succ, List.length_append, strm_len s c j, blkS, macD_len]; omega
def strE (s : ByteArray) (c n : Int) : Int := if keyE s = 0 then (if c < 0 ∨ 1099511627776 < c ∨ n < 0 ∨ 232 < n then 4 else 0) else keyE s
def nbl (n : Nat) : Nat := (n + 31) / 32
def strD (s : ByteArray) (c n : Int) : List Int := (strm s c.toNat (nbl n.toNat)).take n.toNat

end Go.Proofs.Ytmdkfhmmhiofbaa
