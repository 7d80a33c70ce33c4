/- The law BatchChecks, over data. -/
import Derived.Test.YtkdfdcodkeclmaaGreatDoorSBt3
import Derived.Test.YtkdfdcodkeclmaaGreatDoorSSe
namespace Go.Proofs.YtkdfdcodkeclmaaGreatDoor
open Go.RowKit Go.Sort
set_option linter.unusedVariables false
set_option linter.unusedSimpArgs false
set_option maxRecDepth 100000
theorem seE_V {s : SE} (h : seE s = 0) : seV s = 0 := by
 unfold seE at h
 split at h
 ·cases h
 ·split at h
  ·cases h
  ·exact h
end Go.Proofs.YtkdfdcodkeclmaaGreatDoor
