/- wire.Encode over data, by the types. -/
import Derived.Test.YtmdkfhmmhiofbaaWi1
namespace Go.Proofs.Ytmdkfhmmhiofbaa
open Go.RowKit Go.Sort
set_option linter.unusedVariables false
set_option linter.unusedSimpArgs false
set_option maxRecDepth 100000

end Go.Proofs.Ytmdkfhmmhiofbaa
