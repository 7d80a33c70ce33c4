/- Strings in order; bounds of plain data. -/
import Derived.Test.YtcjnecmgificmaaGreatDoorMa4
--%T
namespace Go.Proofs.YtcjnecmgificmaaGreatDoor
open Go.RowKit Go.Sort
set_option linter.unusedVariables false
set_option linter.unusedSimpArgs false

theorem bdL_unflat {N : Nat} {L : List (List PV)} (h : PV.bdL N L.flatten) : ∀ x ∈ L, PV.bdL N x := fun x hx => bdL_all.2 fun y hy => bdL_all.1 h y (List.mem_flatten.2 ⟨x, hx, hy⟩)
def leK (a b : ByteArray) : Bool := sLt a b || decide (a = b)
theorem sLt_empty (a : ByteArray) : sLt a ⟨#[]⟩ = false := by
  unfold sLt
  generalize a.toList = l
  show Op.bytesLess l (ByteArray.toList ⟨#[]⟩) = false
  have : ByteArray.toList ⟨#[]⟩ = [] := by
    unfold ByteArray.toList
    unfold ByteArray.toList.loop
    rfl
  rw [this]
  cases l <;> rfl
end Go.Proofs.YtcjnecmgificmaaGreatDoor
