/- wire.Encode over data, by the types. -/
import Derived.Test.YtckkmfoccefcfaaWi1
namespace Go.Proofs.Ytckkmfoccefcfaa
open Go.RowKit Go.Sort
set_option linter.unusedVariables false
set_option linter.unusedSimpArgs false
set_option maxRecDepth 100000

end Go.Proofs.Ytckkmfoccefcfaa
