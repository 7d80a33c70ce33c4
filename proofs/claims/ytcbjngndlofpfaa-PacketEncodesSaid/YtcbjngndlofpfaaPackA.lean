/- What the functions of package packet compute. -/
import Derived.Test.YtcbjngndlofpfaaByv
import Derived.Test.YtcbjngndlofpfaaShelf
import Derived.Deep.RegionHeld3
import Derived.Deep.QuietTactic
import Derived.BigQuiet
namespace Go.Proofs.Ytcbjngndlofpfaa
open Go.RowKit Go.Sort
set_option linter.unusedVariables false

def four4 (a : Int) : List Int := [a / 16777216, a / 65536 % 256, a / 256 % 256, a % 256]
theorem four_c (a : Int) (w : World) (h0 : 0 ≤ a) (h1 : a < 4294967296) :
    Calls Try.prog 56 #[.int .u32 a] w fun e w' => e = .returned (.slice (some ⟨w.heap.size, 0, none⟩) 4 4) ∧ w' = w.alloc (.cells #[.int .u8 (a / 16777216), .int .u8 (a / 65536 % 256), .int .u8 (a / 256 % 256), .int .u8 (a % 256)] 5) := by
  go_enter Try.func56, Try.ntmps56
  go_wp2
  go_ret
  exact ⟨rfl, rfl⟩
end Go.Proofs.Ytcbjngndlofpfaa
