/- The law BatchChecks, over data. -/
import Derived.Test.YtgpleldhddpcgaaGreatDoorBt3
import Derived.Test.YtgpleldhddpcgaaGreatDoorSe
--%T
namespace Go.Proofs.YtgpleldhddpcgaaGreatDoor
open Go.RowKit Go.Sort
set_option linter.unusedVariables false
set_option linter.unusedSimpArgs false
set_option maxRecDepth 100000

theorem seE_V {s : SE} (h : seE s = 0) : seV s = 0 := by
  unfold seE at h
  split at h
  · cases h
  · split at h
    · cases h
    · exact h
theorem seR_ex (s : SE) : ∃ (w v : ByteArray) (e : Int), seR s = .tup [.agg [.p (.v (.string w)), .p (.v (.string v))], .p (.v (.int .i64 e))] := by
  unfold seR
  split <;> exact ⟨_, _, _, rfl⟩
end Go.Proofs.YtgpleldhddpcgaaGreatDoor
