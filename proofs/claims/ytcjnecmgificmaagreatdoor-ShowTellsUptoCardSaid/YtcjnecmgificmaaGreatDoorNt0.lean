/- net.Check and the reference's NetFault, over data. -/
import Derived.Test.YtcjnecmgificmaaGreatDoorMa4
import Derived.Test.YtcjnecmgificmaaGreatDoorNetB
namespace Go.Proofs.YtcjnecmgificmaaGreatDoor
open Go.RowKit Go.Sort
set_option linter.unusedVariables false
set_option linter.unusedSimpArgs false
set_option maxRecDepth 100000

def netA (a n : Int) : List AV := [.p (.v (.int .u32 a)), .p (.v (.int .i64 n))]
theorem nCheck_s (a n : Int) (h2 : 0 ≤ a) (h3 : a < 4294967296) : Fn Tryz.prog 47 [.agg (netA a n)] (.p (.v (.int .i64 (netFault a n)))) [] :=
  fn_gives rfl (fun _ _ _ => rep_mk rfl) (check_g a n h2 h3)
theorem nrFault_s (a n : Int) (h2 : 0 ≤ a) (h3 : a < 4294967296) : Fn Tryz.prog 51 [.agg (netA a n)] (.p (.v (.int .i64 (netFault a n)))) [] :=
  fn_gives rfl (fun _ _ _ => rep_mk rfl) (refFault_g a n h2 h3)
end Go.Proofs.YtcjnecmgificmaaGreatDoor
