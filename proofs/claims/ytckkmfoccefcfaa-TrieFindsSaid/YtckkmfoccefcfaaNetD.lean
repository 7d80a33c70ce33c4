/- The law NetChecks, walked; Compare, NetOrder and the law NetHolds. -/
import Derived.Test.YtckkmfoccefcfaaNetC
import Derived.Deep.RegionHeld3
namespace Go.Proofs.Ytckkmfoccefcfaa
open Go.RowKit Go.Sort
set_option linter.unusedVariables false

theorem of_g (a n : Int) (h2 : 0 ≤ a) (h3 : a < 4294967296) : Gives Try.prog 125 #[.int .u32 a, .int .i64 n] (.tuple #[.agg #[.int .u32 (ofA a n), .int .i64 (ofN n)], .int .i64 (ofE n)]) :=
  fun w => of_c a n w h2 h3


end Go.Proofs.Ytckkmfoccefcfaa
