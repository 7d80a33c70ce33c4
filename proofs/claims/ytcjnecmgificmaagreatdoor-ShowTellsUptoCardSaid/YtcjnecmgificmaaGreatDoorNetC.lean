/- What NetOf, NetHas, NetHolds of the reference compute: contracts. -/
import Derived.Test.YtcjnecmgificmaaGreatDoorNetB
import Derived.Test.YtcjnecmgificmaaGreatDoorQTail
import Derived.Test.YtcjnecmgificmaaGreatDoorEql
namespace Go.Proofs.YtcjnecmgificmaaGreatDoor
open Go.RowKit Go.Sort

theorem refFault_g' (a n : Int) (h2 : 0 ≤ a) (h3 : a < 4294967296) : Gives Tryz.prog 51 #[.agg #[.int .u32 a, .int .i64 n]] (.int .i64 (netFault a n)) := refFault_g a n h2 h3

theorem ofE_of {a n : Int} (h : netFault a n = 0) (x : Int) : ofE n = 0 ∧ ofN n = n ∧ ofA x n = topI x n := by
  have hk := netFault_ok h
  unfold ofE ofN ofA
  have hn : ¬ (n < 0 ∨ 32 < n) := by omega
  rw [if_neg hn, if_neg hn, if_neg hn]
  exact ⟨rfl, rfl, rfl⟩

end Go.Proofs.YtcjnecmgificmaaGreatDoor
