/- The law BatchChecks, over data. -/
import Derived.Test.YtcjnecmgificmaaGreatDoorBt3
--%T
namespace Go.Proofs.YtcjnecmgificmaaGreatDoor
open Go.RowKit Go.Sort
set_option linter.unusedVariables false
set_option linter.unusedSimpArgs false
set_option maxRecDepth 100000

theorem SE.of_ty {n : Nat} {ps : List PV} (h : Ty Tryz.prog (n + 3) 57 ps) (hb : PV.bdL 1048576 ps) : ∃ s : SE, s.OK ∧ ps = s.pv := by
  obtain ⟨_, rfl, x0, _, rfl, t0, x1, _, rfl, t1, x2, _, rfl, t2, x3, _, rfl, t3, rfl⟩ := ty_struct (ts := [3, 9, 3, 55]) (by kernel_rfl) h
  obtain ⟨k, rfl, hk⟩ := ty_int Tryz.underlying3 t0
  obtain ⟨t, rfl, _⟩ := ty_string Tryz.underlying9 t1
  obtain ⟨m, rfl, hm⟩ := ty_int Tryz.underlying3 t2
  obtain ⟨_, rfl, y0, _, rfl, u0, y1, _, rfl, u1, rfl⟩ := ty_struct (ts := [53, 3]) (by kernel_rfl) t3
  obtain ⟨a, rfl, ha⟩ := ty_int Tryz.underlying53 u0
  obtain ⟨b, rfl, hb'⟩ := ty_int Tryz.underlying3 u1
  obtain ⟨m0, m1⟩ := wf_i64 hm
  obtain ⟨a0, a1⟩ := wf_u32 ha
  refine ⟨⟨k, t, m, a, b⟩, ⟨?_, m0, m1, a0, a1⟩, rfl⟩
  simp [PV.bdL, PV.bd] at hb
  show t.size < _
  omega
theorem seE_V {s : SE} (h : seE s = 0) : seV s = 0 := by
  unfold seE at h
  split at h
  · cases h
  · split at h
    · cases h
    · exact h
theorem seR_ex (s : SE) : ∃ (w v : ByteArray) (e : Int), seR s = .tup [.agg [.p (.v (.string w)), .p (.v (.string v))], .p (.v (.int .i64 e))] := by
  unfold seR
  split <;> exact ⟨_, _, _, rfl⟩
end Go.Proofs.YtcjnecmgificmaaGreatDoor
