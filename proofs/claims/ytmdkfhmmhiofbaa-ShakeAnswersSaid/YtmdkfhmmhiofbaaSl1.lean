/- seal.Seal, its reference, and the law SealSeals, over data. -/
import Derived.Test.YtmdkfhmmhiofbaaSs3
namespace Go.Proofs.Ytmdkfhmmhiofbaa
open Go.RowKit Go.Sort
set_option linter.unusedVariables false
set_option linter.unusedSimpArgs false
set_option maxRecDepth 100000

theorem xb_comm (a b : Int) : xb a b = xb b a := by
  show IntKind.u8.wrap ((BitVec.ofInt 8 a ^^^ BitVec.ofInt 8 b).toNat : Int) = IntKind.u8.wrap ((BitVec.ofInt 8 b ^^^ BitVec.ofInt 8 a).toNat : Int)
  rw [BitVec.xor_comm]
def mixD (a b : List Int) : List Int := List.zipWith xb a b
theorem mixD_B (a b : List Int) : isB (mixD a b) := by
  intro x hx
  obtain ⟨i, hi, rfl⟩ := List.mem_iff_getElem.1 hx
  simp only [mixD, List.getElem_zipWith]
  exact xb_B _ _
theorem mixD_len {a b : List Int} {n : Nat} (ha : a.length = n) (hb : b.length = n) : (mixD a b).length = n := by simp [mixD, ha, hb]
/-- the first k done, behind them what was there -/
def mixK (a b z : List Int) (k : Nat) : List Int := (mixD a b).take k ++ z.drop k
theorem mixK_len {a b z : List Int} {n k : Nat} (ha : a.length = n) (hb : b.length = n) (hz : z.length = n) (hk : k ≤ n) : (mixK a b z k).length = n := by
  rw [mixK, List.length_append, List.length_take, List.length_drop, mixD_len ha hb]; omega
theorem mixK_step {a b z : List Int} {n k : Nat} {x y : Int} (ha : a.length = n) (hb : b.length = n) (hz : z.length = n) (hk : k < n) (hx : a[k]? = some x) (hy : b[k]? = some y) :
    (mixK a b z k)[k]? = z[k]? ∧ (mixK a b z k).set k (xb x y) = mixK a b z (k + 1) := by
  have hl := mixD_len ha hb
  have h1 : k < (mixD a b).length := by omega
  have e : (mixD a b)[k] = xb x y := by
    simp only [mixD, List.getElem_zipWith]
    rw [(List.getElem?_eq_some_iff.1 hx).2, (List.getElem?_eq_some_iff.1 hy).2]
  have h2 : ((mixD a b).take k).length = k := by rw [List.length_take]; omega
  constructor
  · rw [mixK, List.getElem?_append_right (by omega), h2, Nat.sub_self, List.getElem?_drop, Nat.add_zero]
  · rw [mixK, mixK, List.set_append_right _ _ (by omega), h2, Nat.sub_self, List.drop_eq_getElem_cons (by omega), List.set_cons_zero, List.take_succ_eq_append_getElem h1, e, List.append_assoc]
    rfl
theorem mixK_full {a b z : List Int} {n : Nat} (ha : a.length = n) (hb : b.length = n) (hz : z.length = n) : mixK a b z n = mixD a b := by
  rw [mixK, List.take_of_length_le (by rw [mixD_len ha hb]; omega), List.drop_of_length_le (by omega), List.append_nil]

def SEAL : List Int := [115, 101, 97, 108]
theorem SEAL_B : isB SEAL := by intro x hx; simp [SEAL] at hx; omega
end Go.Proofs.Ytmdkfhmmhiofbaa
