/- The laws AddrEnds, AddrTells, over data. -/
import Derived.Test.YtgpleldhddpcgaaGreatDoorAd3
import Derived.Test.YtgpleldhddpcgaaGreatDoorUtZ
--%T
namespace Go.Proofs.YtgpleldhddpcgaaGreatDoor
open Go.RowKit Go.Sort
set_option linter.unusedVariables false
set_option linter.unusedSimpArgs false
set_option maxRecDepth 100000

theorem bd_str {N : Nat} {s : ByteArray} (h : PV.bdL N [.v (.string s)]) : s.size ≤ N := by simpa [PV.bdL, PV.bd] using h
end Go.Proofs.YtgpleldhddpcgaaGreatDoor
