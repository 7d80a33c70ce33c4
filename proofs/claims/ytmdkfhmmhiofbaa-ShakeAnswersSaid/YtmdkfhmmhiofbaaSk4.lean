/- The laws ShakeHellos, ShakeEnds, over data. -/
import Derived.Test.YtmdkfhmmhiofbaaSk3
--%T
namespace Go.Proofs.Ytmdkfhmmhiofbaa
open Go.RowKit Go.Sort
set_option linter.unusedVariables false
set_option linter.unusedSimpArgs false
set_option maxRecDepth 100000

theorem finP_ex (a b sh : ByteArray) (x : HS) (m : MS) (now : Int) : ∃ (k : KY) (e : Int), finP a b sh x m now = (k, e) := ⟨_, _, rfl⟩
end Go.Proofs.Ytmdkfhmmhiofbaa
