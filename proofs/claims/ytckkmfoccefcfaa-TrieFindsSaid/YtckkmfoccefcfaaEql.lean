/- What == and != give on the structs of package api, field by field. -/
import Derived.Test.YtckkmfoccefcfaaProg
import Derived.Test.YtckkmfoccefcfaaLib
import Derived.WalkKit
import Derived.Laws.StructEq
namespace Go.Proofs.Ytckkmfoccefcfaa
open Go.RowKit

theorem guardNet : Try.prog.eqGuardType Try.prog.depth 36 = false := by kernel_rfl
theorem heldNet : Try.prog.stoodInHeld 36 = false := by kernel_rfl
theorem fieldsNet : Try.prog.underlying 36 = some (.struct (Try.prog.fieldsOf 36)) := by kernel_rfl
theorem eqlNet (w : World) (a n b m : Int) :
    (Go.binOp .eql 36 (.agg #[.int .u32 a, .int .i64 n]) (.agg #[.int .u32 b, .int .i64 m])).run Try.prog w = .ok (.bool (a == b && n == m)) w := by
  rw [run_eql_struct, run_equalIn_agg w 9999 _ _ _ fieldsNet heldNet]
  simp [Program.fieldsOf, Try.underlying36, go_sem]
  by_cases h1 : a = b <;> by_cases h2 : n = m <;> simp [h1, h2]
theorem neqNet (w : World) (a n b m : Int) :
    (Go.binOp .neq 36 (.agg #[.int .u32 a, .int .i64 n]) (.agg #[.int .u32 b, .int .i64 m])).run Try.prog w = .ok (.bool (!(a == b && n == m))) w := by
  rw [run_neq_struct, run_equalIn_agg w 9999 _ _ _ fieldsNet heldNet]
  simp [Program.fieldsOf, Try.underlying36, go_sem]
  by_cases h1 : a = b <;> by_cases h2 : n = m <;> simp [h1, h2]
end Go.Proofs.Ytckkmfoccefcfaa
