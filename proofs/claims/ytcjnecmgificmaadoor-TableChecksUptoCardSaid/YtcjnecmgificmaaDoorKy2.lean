/- keys.Fresh, keys.Old, their references, over data. -/
import Derived.Test.YtcjnecmgificmaaDoorKy1
namespace Go.Proofs.YtcjnecmgificmaaDoor
open Go.RowKit Go.Sort
set_option linter.unusedVariables false
set_option linter.unusedSimpArgs false
set_option maxRecDepth 100000

noncomputable def freshB (k : KY) (now : Int) : Bool := ((((kE k == 0) && k.live) && decide (k.counter < 1099511627776)) && decide (k.born ≤ now)) && decide (now - k.born < 180)
noncomputable def oldB (k : KY) (now : Int) : Bool := !freshB k now || decide (120 ≤ now - k.born)
theorem freshB_true {k : KY} {now : Int} (h : freshB k now = true) : kE k = 0 ∧ k.live = true ∧ 0 ≤ k.born ∧ k.born ≤ 1099511627776 ∧ 0 ≤ k.counter ∧ k.counter < 1099511627776 ∧ k.born ≤ now ∧ now - k.born < 180 := by
  unfold freshB at h
  simp at h
  have := kE_bounds h.1.1.1.1 h.1.1.1.2
  exact ⟨h.1.1.1.1, h.1.1.1.2, by omega, by omega, by omega, h.1.1.2, h.1.2, h.2⟩

/-! typed data -/
theorem KY.of_ty {n : Nat} {ps : List PV} (h : Ty Tryd.prog (n + 3) 44 ps) : ∃ k : KY, k.OK ∧ ps = k.pv := by
  obtain ⟨_, rfl, x0, _, rfl, t0, x1, _, rfl, t1, x2, _, rfl, t2, x3, _, rfl, t3, x4, _, rfl, t4, x5, _, rfl, t5, x6, _, rfl, t6, x7, _, rfl, t7, x8, _, rfl, t8, rfl⟩ := ty_struct (ts := [4, 9, 9, 3, 3, 3, 3, 42, 4]) (by kernel_rfl) h
  obtain ⟨_, rfl, y0, _, rfl, u0, y1, _, rfl, u1, y2, _, rfl, u2, rfl⟩ := ty_struct (ts := [4, 3, 40]) (by kernel_rfl) t7
  obtain ⟨a0, rfl⟩ := ty_bool Tryd.underlying4 t0
  obtain ⟨a1, rfl, w1⟩ := ty_string Tryd.underlying9 t1
  obtain ⟨a2, rfl, w2⟩ := ty_string Tryd.underlying9 t2
  obtain ⟨a3, rfl, w3⟩ := ty_int Tryd.underlying3 t3
  obtain ⟨a4, rfl, w4⟩ := ty_int Tryd.underlying3 t4
  obtain ⟨a5, rfl, w5⟩ := ty_int Tryd.underlying3 t5
  obtain ⟨a6, rfl, w6⟩ := ty_int Tryd.underlying3 t6
  obtain ⟨a8, rfl⟩ := ty_bool Tryd.underlying4 t8
  obtain ⟨b0, rfl⟩ := ty_bool Tryd.underlying4 u0
  obtain ⟨b1, rfl, v1⟩ := ty_int Tryd.underlying3 u1
  obtain ⟨b2, rfl, v2⟩ := ty_int Tryd.underlying40 u2
  refine ⟨⟨a0, a1, a2, a3, a4, a5, a6, b0, b1, b2, a8⟩, ?_, rfl⟩
  have := wf_i64 w3; have := wf_i64 w4; have := wf_i64 w5; have := wf_i64 w6; have := wf_i64 v1; have := wf_u64 v2
  have : reachBytes ≤ 140737488351232 := Nat.le_of_ble_eq_true rfl
  constructor <;> simp only <;> omega
end Go.Proofs.YtcjnecmgificmaaDoor
