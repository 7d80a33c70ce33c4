/- The laws AddrEnds, AddrTells, over data. -/
import Derived.Test.YtgpleldhddpcgaaGreatDoorSAd3
import Derived.Test.YtgpleldhddpcgaaGreatDoorSUtZ
namespace Go.Proofs.YtgpleldhddpcgaaGreatDoor
open Go.RowKit Go.Sort
set_option linter.unusedVariables false
set_option linter.unusedSimpArgs false
set_option maxRecDepth 100000
end Go.Proofs.YtgpleldhddpcgaaGreatDoor
