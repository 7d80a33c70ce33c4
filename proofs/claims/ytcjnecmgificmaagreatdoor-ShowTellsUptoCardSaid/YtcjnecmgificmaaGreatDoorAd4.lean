/- The laws AddrEnds, AddrTells, over data. -/
import Derived.Test.YtcjnecmgificmaaGreatDoorAd3
import Derived.Test.YtcjnecmgificmaaGreatDoorGi
--%T
namespace Go.Proofs.YtcjnecmgificmaaGreatDoor
open Go.RowKit Go.Sort
set_option linter.unusedVariables false
set_option linter.unusedSimpArgs false
set_option maxRecDepth 100000

theorem bd_str {N : Nat} {s : ByteArray} (h : PV.bdL N [.v (.string s)]) : s.size ≤ N := by simpa [PV.bdL, PV.bd] using h
end Go.Proofs.YtcjnecmgificmaaGreatDoor
