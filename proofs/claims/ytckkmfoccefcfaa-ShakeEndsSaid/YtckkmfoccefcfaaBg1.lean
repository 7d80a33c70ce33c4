/- The reference's big, of any width, over data: of eight bytes. -/
import Derived.Test.YtckkmfoccefcfaaSs1
import Derived.Test.YtckkmfoccefcfaaCl
namespace Go.Proofs.Ytckkmfoccefcfaa
open Go.RowKit Go.Sort

theorem beN_8 (n : Nat) : beN 8 n = be8 n := rfl
end Go.Proofs.Ytckkmfoccefcfaa
