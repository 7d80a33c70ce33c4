/- What == and != give on the structs of package api, field by field. -/
import Derived.Test.YtcjnecmgificmaaGreatDoorProg
import Derived.Test.YtcjnecmgificmaaGreatDoorLib
import Derived.WalkKit
import Derived.Laws.StructEq
namespace Go.Proofs.YtcjnecmgificmaaGreatDoor
open Go.RowKit

theorem guardNet : Tryz.prog.eqGuardType Tryz.prog.depth 55 = false := by kernel_rfl
theorem heldNet : Tryz.prog.stoodInHeld 55 = false := by kernel_rfl
theorem fieldsNet : Tryz.prog.underlying 55 = some (.struct (Tryz.prog.fieldsOf 55)) := by kernel_rfl
theorem eqlNet (w : World) (a n b m : Int) :
    (Go.binOp .eql 55 (.agg #[.int .u32 a, .int .i64 n]) (.agg #[.int .u32 b, .int .i64 m])).run Tryz.prog w = .ok (.bool (a == b && n == m)) w := by
  rw [run_eql_struct, run_equalIn_agg w 9999 _ _ _ fieldsNet heldNet]
  simp [Program.fieldsOf, Tryz.underlying55, go_sem]
  by_cases h1 : a = b <;> by_cases h2 : n = m <;> simp [h1, h2]
theorem neqNet (w : World) (a n b m : Int) :
    (Go.binOp .neq 55 (.agg #[.int .u32 a, .int .i64 n]) (.agg #[.int .u32 b, .int .i64 m])).run Tryz.prog w = .ok (.bool (!(a == b && n == m))) w := by
  rw [run_neq_struct, run_equalIn_agg w 9999 _ _ _ fieldsNet heldNet]
  simp [Program.fieldsOf, Tryz.underlying55, go_sem]
  by_cases h1 : a = b <;> by_cases h2 : n = m <;> simp [h1, h2]
end Go.Proofs.YtcjnecmgificmaaGreatDoor
