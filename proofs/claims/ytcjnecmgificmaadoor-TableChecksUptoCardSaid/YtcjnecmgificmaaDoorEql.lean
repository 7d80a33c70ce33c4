/- What == and != give on the structs of package api, field by field. -/
import Derived.Test.YtcjnecmgificmaaDoorProg
import Derived.Test.YtcjnecmgificmaaDoorLib
import Derived.WalkKit
import Derived.Laws.StructEq
namespace Go.Proofs.YtcjnecmgificmaaDoor
open Go.RowKit

theorem guardNet : Tryd.prog.eqGuardType Tryd.prog.depth 34 = false := by kernel_rfl
theorem heldNet : Tryd.prog.stoodInHeld 34 = false := by kernel_rfl
theorem fieldsNet : Tryd.prog.underlying 34 = some (.struct (Tryd.prog.fieldsOf 34)) := by kernel_rfl
theorem eqlNet (w : World) (a n b m : Int) :
    (Go.binOp .eql 34 (.agg #[.int .u32 a, .int .i64 n]) (.agg #[.int .u32 b, .int .i64 m])).run Tryd.prog w = .ok (.bool (a == b && n == m)) w := by
  rw [run_eql_struct, run_equalIn_agg w 9999 _ _ _ fieldsNet heldNet]
  simp [Program.fieldsOf, Tryd.underlying34, go_sem]
  by_cases h1 : a = b <;> by_cases h2 : n = m <;> simp [h1, h2]
theorem neqNet (w : World) (a n b m : Int) :
    (Go.binOp .neq 34 (.agg #[.int .u32 a, .int .i64 n]) (.agg #[.int .u32 b, .int .i64 m])).run Tryd.prog w = .ok (.bool (!(a == b && n == m))) w := by
  rw [run_neq_struct, run_equalIn_agg w 9999 _ _ _ fieldsNet heldNet]
  simp [Program.fieldsOf, Tryd.underlying34, go_sem]
  by_cases h1 : a = b <;> by_cases h2 : n = m <;> simp [h1, h2]
end Go.Proofs.YtcjnecmgificmaaDoor
