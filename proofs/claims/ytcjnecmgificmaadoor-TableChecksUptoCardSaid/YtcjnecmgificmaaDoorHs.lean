/- A handshake under way, as data. -/
import Derived.Test.YtcjnecmgificmaaDoorMa4
--%T
namespace Go.Proofs.YtcjnecmgificmaaDoor
open Go.RowKit Go.Sort
set_option linter.unusedVariables false
set_option linter.unusedSimpArgs false
set_option maxRecDepth 100000

/-- a handshake under way -/
structure HS where
  lv : Bool
  mine : Int
  nc : ByteArray
  b : Int
  s : Int
def HS.cells (x : HS) : List AV := [.p (.v (.bool x.lv)), .p (.v (.int .i64 x.mine)), .p (.v (.string x.nc)), .p (.v (.int .i64 x.b)), .p (.v (.int .i64 x.s))]
def HS.pv (x : HS) : List PV := [.v (.bool x.lv), .v (.int .i64 x.mine), .v (.string x.nc), .v (.int .i64 x.b), .v (.int .i64 x.s)]
theorem HS.of_ty {n : Nat} {ps : List PV} (h : Ty Tryd.prog (n + 3) 48 ps) : ∃ x : HS, -9223372036854775808 ≤ x.mine ∧ x.mine ≤ 9223372036854775807 ∧ x.nc.size ≤ 140737488351232 ∧ ps = x.pv := by
  obtain ⟨_, rfl, x0, _, rfl, t0, x1, _, rfl, t1, x2, _, rfl, t2, x3, _, rfl, t3, x4, _, rfl, t4, rfl⟩ := ty_struct (ts := [4, 3, 9, 3, 3]) (by kernel_rfl) h
  obtain ⟨a0, rfl⟩ := ty_bool Tryd.underlying4 t0
  obtain ⟨a1, rfl, w1⟩ := ty_int Tryd.underlying3 t1
  obtain ⟨a2, rfl, w2⟩ := ty_string Tryd.underlying9 t2
  obtain ⟨a3, rfl, w3⟩ := ty_int Tryd.underlying3 t3
  obtain ⟨a4, rfl, w4⟩ := ty_int Tryd.underlying3 t4
  obtain ⟨q0, q1⟩ := wf_i64 w1
  exact ⟨⟨a0, a1, a2, a3, a4⟩, q0, q1, w2, rfl⟩
end Go.Proofs.YtcjnecmgificmaaDoor
