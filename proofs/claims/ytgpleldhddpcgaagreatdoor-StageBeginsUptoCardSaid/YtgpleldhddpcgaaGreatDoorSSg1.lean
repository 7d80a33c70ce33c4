/- A stage, typed, as data; stage.Check, the reference's StageFault. -/
import Derived.Test.YtgpleldhddpcgaaGreatDoorSCf4
import Derived.Test.YtgpleldhddpcgaaGreatDoorSSe
import Derived.Test.YtgpleldhddpcgaaGreatDoorSBt2
namespace Go.Proofs.YtgpleldhddpcgaaGreatDoor
open Go.RowKit Go.Sort
set_option linter.unusedVariables false
set_option linter.unusedSimpArgs false
set_option maxRecDepth 100000
/-- a stage -/
structure SG where
  lv : Bool
  rest : List SE
  c : CF
  at_ : ByteArray
  err : Int
def sgC (lv : Bool) (n : Nat) (R : List PV) (key : ByteArray) (port : Int) (m : Nat) (L : List PV) (at_ : ByteArray) (err : Int) : List AV :=
  [.p (.v (.bool lv)), .p (.sl n 5 R), .p (.v (.string key)), .p (.v (.int .i64 port)), .p (.sl m 5 L), .p (.v (.string at_)), .p (.v (.int .i64 err))]
def SG.cells (s : SG) : List AV := sgC s.lv s.rest.length (s.rest.flatMap SE.pv) s.c.key s.c.port s.c.ps.length (s.c.ps.flatMap PE.pv) s.at_ s.err
def SG.pv (s : SG) : List PV := [.v (.bool s.lv), .sl s.rest.length 5 (s.rest.flatMap SE.pv)] ++ s.c.pv ++ [.v (.string s.at_), .v (.int .i64 s.err)]
structure SG.OK (s : SG) : Prop where
  rest : ∀ x ∈ s.rest, x.OK
  len : s.rest.length ≤ 1048576
  c : s.c.OK
  az : s.at_.size ≤ 1048576
  kz : s.c.key.size ≤ 1048576
theorem SG.of_ty {n : Nat} {ps : List PV} (h : Ty Tryz.prog (n + 8) 35 ps) (hb : PV.bdL 1048576 ps) : ∃ s : SG, s.OK ∧ ps = s.pv := by
  obtain ⟨_, rfl, x0, _, rfl, t0, x1, _, rfl, t1, x2, _, rfl, t2, x3, _, rfl, t3, x4, _, rfl, t4, rfl⟩ := ty_struct (ts := [4, 33, 24, 9, 26]) (by kernel_rfl) h
  obtain ⟨a0, rfl⟩ := ty_bool Tryz.underlying4 t0
  obtain ⟨l, okl, hl, rfl⟩ := SE.list_ty t1 (bdL_unflat hb x1 (by simp))
  have hb2 := bdL_unflat hb x2 (by simp)
  have hb3 := bdL_unflat hb x3 (by simp)
  obtain ⟨c, okc, rfl⟩ := CF.of_ty t2 hb2
  obtain ⟨a3, rfl, _⟩ := ty_string Tryz.underlying9 t3
  obtain ⟨a4, rfl, _⟩ := ty_int Tryz.underlying26 t4
  simp only [CF.pv, PV.bdL, PV.bd] at hb2 hb3
  exact ⟨⟨a0, l, c, a3, a4⟩, ⟨okl, hl, okc, hb3.1, hb2.1⟩, by simp [SG.pv]⟩
end Go.Proofs.YtgpleldhddpcgaaGreatDoor
