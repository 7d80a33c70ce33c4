/- The reference's big, of any width, over data: of eight bytes. -/
import Derived.Test.YtmdkfhmmhiofbaaSs1
import Derived.Test.YtmdkfhmmhiofbaaCl
namespace Go.Proofs.Ytmdkfhmmhiofbaa
open Go.RowKit Go.Sort

theorem beN_8 (n : Nat) : beN 8 n = be8 n := rfl
end Go.Proofs.Ytmdkfhmmhiofbaa
