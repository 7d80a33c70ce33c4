/- The machine over data: maps. -/
import Derived.Test.YtgpleldhddpcgaaGreatDoorSMa4
import Derived.MapKept
namespace Go.Proofs.YtgpleldhddpcgaaGreatDoor
open Go.RowKit Go.Sort
set_option linter.unusedVariables false
set_option linter.unusedSimpArgs false
section
variable {P : Program} {d : Option Tmp} {ty : TypeId} {pos : String} {af : Array Edge} {g : Option (Nat × Bool)}
theorem a_makeMap {t : TypeId} (n : Nat) : AOp P ⟨d, .makeMap t none, ty, pos, af, g⟩ [] [(n, .un)] [(n, .live (.map []))] (.mp n) := by
  intro w0 A S m heap w ev hm hR hrd
  have hd : heap n = .un := rd1 hrd
  have hrun : (execOp ev ⟨d, .makeMap t none, ty, pos, af, g⟩).run P w = .ok (.value (.map (some w.heap.size))) (w.alloc (.map #[] 0)) := by
    simp [execOp, Instr.makeMap]
  unfold Out
  rw [hrun]
  have hb : Below w.heap.size w (w.alloc (.map #[] 0)) := (Below.refl _ _).alloc (Nat.le_refl _) _
  have hg := grow_new hm hb hd (.map (some w.heap.size))
  obtain ⟨k1, k2⟩ := mem_new hm hb n hd (.map (some w.heap.size)) (.map []) (fun b hb => by simp [blk] at hb; omega)
    ⟨w.heap.size, #[], 0, rfl, hm.hB, by simpa using heap_alloc_new w (.map #[] 0), rfl⟩
  exact ⟨S, _, by simp only [Rep]; exact ⟨by simp [setM], _, rfl⟩, k1, k2⟩
def gotV (z : Value) : Option (Nat × Value) → Value
  | some p => p.2
  | none => z
end
end Go.Proofs.YtgpleldhddpcgaaGreatDoor
