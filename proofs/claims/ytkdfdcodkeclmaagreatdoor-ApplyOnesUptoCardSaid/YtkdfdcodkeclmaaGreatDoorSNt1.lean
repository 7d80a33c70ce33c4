/- The laws AddrEnds, AddrTells, over data. -/
import Derived.Test.YtkdfdcodkeclmaaGreatDoorSAd3
import Derived.Test.YtkdfdcodkeclmaaGreatDoorSUtZ
import Derived.Test.YtkdfdcodkeclmaaGreatDoorSNetZ
namespace Go.Proofs.YtkdfdcodkeclmaaGreatDoor
open Go.RowKit Go.Sort
set_option linter.unusedVariables false
set_option linter.unusedSimpArgs false
set_option maxRecDepth 100000
end Go.Proofs.YtkdfdcodkeclmaaGreatDoor
/- net.Text, net.Parse, their references, the law NetTells, over data. -/
namespace Go.Proofs.YtkdfdcodkeclmaaGreatDoor
open Go.RowKit Go.Sort
set_option linter.unusedVariables false
set_option linter.unusedSimpArgs false
set_option maxRecDepth 100000
def npA (s : ByteArray) : Int := adA (cutA s 47)
def npN (s : ByteArray) : Int := numV (cutZ s 47) 32
def npOk (s : ByteArray) : Prop := 0 ≤ ixB s 47 ∧ adE (cutA s 47) = 0 ∧ numE (cutZ s 47) 32 = 0 ∧ zbe (npA s) (npN s) = 0
instance npOk_dec (s : ByteArray) : Decidable (npOk s) := by unfold npOk; infer_instance
end Go.Proofs.YtkdfdcodkeclmaaGreatDoor
