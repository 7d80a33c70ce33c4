/- Strings and their bytes. -/
import Derived.Test.YtcjnecmgificmaaGreatDoorMa3
namespace Go.Proofs.YtcjnecmgificmaaGreatDoor
open Go.RowKit Go.Sort
set_option linter.unusedVariables false

theorem sb_nums {xs : List Int} (h : isB xs) : sb (strOfNums xs) = xs := by
  show ((xs.map fun n => UInt8.ofNat n.toNat).toArray.toList.map fun c => ((c.toNat : Nat) : Int)) = xs
  simp only [List.map_map]
  conv => rhs; rw [← List.map_id xs]
  refine List.map_congr_left fun x hx => ?_
  have := h x hx
  show (((UInt8.ofNat x.toNat).toNat : Nat) : Int) = x
  rw [UInt8.toNat_ofNat']; omega
theorem sb_cat (s t : ByteArray) : sb (s ++ t) = sb s ++ sb t := by simp [sb]
theorem nums_inj {xs ys : List Int} (h : isB xs) (k : isB ys) (e : strOfNums xs = strOfNums ys) : xs = ys := by rw [← sb_nums h, ← sb_nums k, e]
theorem nums_sb (s : ByteArray) : strOfNums (sb s) = s := by
  show (⟨((s.data.toList.map fun c => ((c.toNat : Nat) : Int)).map fun n => UInt8.ofNat n.toNat).toArray⟩ : ByteArray) = s
  rw [List.map_map]
  have : ((fun n : Int => UInt8.ofNat n.toNat) ∘ fun c : UInt8 => ((c.toNat : Nat) : Int)) = id := by funext c; simp
  rw [this, List.map_id]
theorem nums_size (xs : List Int) : (strOfNums xs).size = xs.length := strOfNums_size xs
theorem cat_size (s t : ByteArray) : (s ++ t).size = s.size + t.size := by simp
end Go.Proofs.YtcjnecmgificmaaGreatDoor
