/- seal.Seal, its reference, and the law SealSeals, over data. -/
import Derived.Test.YtmdkfhmmhiofbaaSl1
import Derived.Test.YtmdkfhmmhiofbaaMa3
namespace Go.Proofs.Ytmdkfhmmhiofbaa
open Go.RowKit Go.Sort
set_option linter.unusedVariables false
set_option linter.unusedSimpArgs false
set_option maxRecDepth 100000

def sealE (s : ByteArray) (c : Int) (n : Nat) : Int := if 220 < n then 1 else strE s c n
def sealO (s : ByteArray) (c : Int) (b : List Int) : List Int := mixD b (strD s c b.length)
def sealT (s : ByteArray) (c : Int) (o : List Int) : List Int := macD s (SEAL ++ be8 c.toNat ++ o)
def sealD (s : ByteArray) (c : Int) (b : List Int) : List Int := sealO s c b ++ (sealT s c (sealO s c b)).take 16
theorem bs_hd (xs : List Int) (k : Nat) : bs (xs.take k) = ((bs xs).drop 0).take (k * 1) := by simp [bs, List.map_take]
theorem strD_len (s : ByteArray) (c n : Int) (h : 0 ≤ n) : (strD s c n).length = n.toNat := by
  unfold strD
  rw [List.length_take, strm_len]; unfold nbl; omega
theorem mixD_comm (a b : List Int) : mixD a b = mixD b a := by
  unfold mixD
  rw [List.zipWith_comm]
  congr 1; funext x y; exact xb_comm _ _
theorem strm_B (s : ByteArray) (c j : Nat) : isB (strm s c j) := by
  intro x hx
  simp only [strm, List.mem_flatMap] at hx
  obtain ⟨k, _, hx⟩ := hx
  exact macD_B _ _ x hx
theorem strD_B (s : ByteArray) (c n : Int) : isB (strD s c n) := fun x hx => strm_B _ _ _ x (List.mem_of_mem_take hx)
theorem strE_good {s : ByteArray} {c n : Int} (h : strE s c n = 0) : keyE s = 0 ∧ 0 ≤ c ∧ c ≤ 1099511627776 ∧ 0 ≤ n ∧ n ≤ 232 := by
  unfold strE at h
  split at h
  · rename_i hk
    split at h
    · omega
    · rename_i h2
      exact ⟨hk, by omega⟩
  · rename_i hk; exact absurd h hk
theorem sealO_len (s : ByteArray) (c : Int) (b : List Int) : (sealO s c b).length = b.length := mixD_len rfl (strD_len s c _ (by omega))
theorem sealT_len (s : ByteArray) (c : Int) (b : List Int) : (sealT s c b).length = 32 := macD_len _ _

end Go.Proofs.Ytmdkfhmmhiofbaa
