/- The law BatchChecks, over data. -/
import Derived.Test.YtcjnecmgificmaaDoorBt3
--%T
namespace Go.Proofs.YtcjnecmgificmaaDoor
open Go.RowKit Go.Sort
set_option linter.unusedVariables false
set_option linter.unusedSimpArgs false
set_option maxRecDepth 100000

theorem SE.of_ty {n : Nat} {ps : List PV} (h : Ty Tryd.prog (n + 3) 64 ps) (hb : PV.bdL 1048576 ps) : ∃ s : SE, s.OK ∧ ps = s.pv := by
  obtain ⟨_, rfl, x0, _, rfl, t0, x1, _, rfl, t1, x2, _, rfl, t2, x3, _, rfl, t3, rfl⟩ := ty_struct (ts := [3, 9, 3, 34]) (by kernel_rfl) h
  obtain ⟨k, rfl, hk⟩ := ty_int Tryd.underlying3 t0
  obtain ⟨t, rfl, _⟩ := ty_string Tryd.underlying9 t1
  obtain ⟨m, rfl, hm⟩ := ty_int Tryd.underlying3 t2
  obtain ⟨_, rfl, y0, _, rfl, u0, y1, _, rfl, u1, rfl⟩ := ty_struct (ts := [25, 3]) (by kernel_rfl) t3
  obtain ⟨a, rfl, ha⟩ := ty_int Tryd.underlying25 u0
  obtain ⟨b, rfl, hb'⟩ := ty_int Tryd.underlying3 u1
  obtain ⟨m0, m1⟩ := wf_i64 hm
  obtain ⟨a0, a1⟩ := wf_u32 ha
  refine ⟨⟨k, t, m, a, b⟩, ⟨?_, m0, m1, a0, a1⟩, rfl⟩
  simp [PV.bdL, PV.bd] at hb
  show t.size < _
  omega
theorem seE_V {s : SE} (h : seE s = 0) : seV s = 0 := by
  unfold seE at h
  split at h
  · cases h
  · split at h
    · cases h
    · exact h
theorem seR_ex (s : SE) : ∃ (w v : ByteArray) (e : Int), seR s = .tup [.agg [.p (.v (.string w)), .p (.v (.string v))], .p (.v (.int .i64 e))] := by
  unfold seR
  split <;> exact ⟨_, _, _, rfl⟩
theorem law_BatchChecks (x0 : List PV) (ty0 : Ty Tryd.prog 10 64 x0) (hb0 : PV.bdL 1048576 x0) :
    Fn Tryd.prog 8 [argAV true x0] (.p (.v (.bool true))) [] := by
  obtain ⟨s, ok, rfl⟩ := SE.of_ty ty0 hb0
  have p1 := check_s s ok
  have q1 := refCheck_s s ok
  have p2 := bline_s s ok
  have q2 := refLine_s s ok
  show Fn Tryd.prog 8 [.agg s.cells] (.p (.v (.bool true))) []
  obtain ⟨w, v, e, hR⟩ := seR_ex s
  rw [hR] at p2 q2
  clear hR
  generalize seE s = E at *
  have hcl : s.cells = [.p (.v (.int .i64 s.k)), .p (.v (.string s.t)), .p (.v (.int .i64 s.n)), .p (.v (.int .u32 s.a)), .p (.v (.int .i64 s.b))] := rfl
  rw [hcl] at *
  refine fn_intro Tryd.func8 rfl (Nat.le_of_ble_eq_true rfl) fun w0 A => ?_
  refine awp_seq ?_
  refine tx ?_
  refine r_run (a_box (X := .agg _) 1 rfl) rfl rfl ⟨rfl, trivial⟩ ?_
  refine aP rfl rfl ?_
  refine arun_nil ?_
  refine awp_seq ?_
  refine tx ?_
  refine lN Tryd.underlying64 rfl sz64 rfl rfl ⟨rfl, trivial⟩ ?_
  refine r_callS (fun n => 10 + 1000 * n) (p1) rfl rfl Tryd.func31 rfl rfl (by first | rfl | simp [AV.okInL, AV.okIn, okInL_map]) rfl rfl rfl (by first | exact trivial | exact ⟨rfl, trivial⟩ | exact ⟨rfl, rfl, trivial⟩) rfl rfl rfl ?_
  refine aP rfl rfl ?_
  refine arun_nil ?_
  refine awp_seq ?_
  refine tx ?_
  refine lN Tryd.underlying64 rfl sz64 rfl rfl ⟨rfl, trivial⟩ ?_
  refine r_callS (fun n => 13 + 1000 * n) (p2) rfl rfl Tryd.func32 rfl rfl (by first | rfl | simp [AV.okInL, AV.okIn, okInL_map]) rfl rfl rfl (by first | exact trivial | exact ⟨rfl, trivial⟩ | exact ⟨rfl, rfl, trivial⟩) rfl rfl rfl ?_
  refine r_pure (a_move (r := .tup _)) rfl rfl ?_
  refine r_pure (a_extract rfl) rfl rfl ?_
  refine r_pure (a_extract rfl) rfl rfl ?_
  refine r_run (a_alloc 4 zr67 rfl) rfl rfl ⟨rfl, trivial⟩ ?_
  refine r_run (a_storeAll (Y := .agg _) sz67 rfl (by first | exact Nat.eq_of_beq_eq_true rfl | (simp only [AV.cells, List.length_map]; first | assumption | omega)) (Nat.eq_of_beq_eq_true rfl)) rfl rfl ⟨rfl, trivial⟩ ?_
  refine aP rfl rfl ?_
  refine arun_nil ?_
  refine awp_seq ?_
  refine tx ?_
  refine lN Tryd.underlying64 rfl sz64 rfl rfl ⟨rfl, trivial⟩ ?_
  refine r_callS (fun n => 17 + 1000 * n) (q1) rfl rfl Tryd.func33 rfl rfl (by first | rfl | simp [AV.okInL, AV.okIn, okInL_map]) rfl rfl rfl (by first | exact trivial | exact ⟨rfl, trivial⟩ | exact ⟨rfl, rfl, trivial⟩) rfl rfl rfl ?_
  refine aP rfl rfl ?_
  refine arun_nil ?_
  refine awp_seq ?_
  refine tx ?_
  refine lN Tryd.underlying64 rfl sz64 rfl rfl ⟨rfl, trivial⟩ ?_
  refine r_callS (fun n => 20 + 1000 * n) (q2) rfl rfl Tryd.func34 rfl rfl (by first | rfl | simp [AV.okInL, AV.okIn, okInL_map]) rfl rfl rfl (by first | exact trivial | exact ⟨rfl, trivial⟩ | exact ⟨rfl, rfl, trivial⟩) rfl rfl rfl ?_
  refine r_pure (a_move (r := .tup _)) rfl rfl ?_
  refine r_pure (a_extract rfl) rfl rfl ?_
  refine r_pure (a_extract rfl) rfl rfl ?_
  refine r_run (a_alloc 7 zr67 rfl) rfl rfl ⟨rfl, trivial⟩ ?_
  refine r_run (a_storeAll (Y := .agg _) sz67 rfl (by first | exact Nat.eq_of_beq_eq_true rfl | (simp only [AV.cells, List.length_map]; first | assumption | omega)) (Nat.eq_of_beq_eq_true rfl)) rfl rfl ⟨rfl, trivial⟩ ?_
  refine aP rfl rfl ?_
  refine arun_nil ?_
  refine awp_seq ?_
  refine tx ?_
  refine mP rfl rfl ?_
  refine mP rfl rfl ?_
  refine r_pure a_eqlT rfl rfl ?_
  refine mP rfl rfl ?_
  refine lN Tryd.underlying67 rfl sz67 rfl rfl ⟨rfl, trivial⟩ ?_
  refine lN Tryd.underlying67 rfl sz67 rfl rfl ⟨rfl, trivial⟩ ?_
  refine r_pure (a_steqT Tryd.underlying67 rfl (by kernel_rfl) (by kernel_rfl)) rfl rfl ?_
  refine r_pure a_pickT rfl rfl ?_
  refine mP rfl rfl ?_
  refine mP rfl rfl ?_
  refine mP rfl rfl ?_
  refine r_pure a_eqlT rfl rfl ?_
  refine r_pure a_pickT rfl rfl ?_
  refine aP rfl rfl ?_
  refine arun_nil ?_
  refine awp_ret ?_
  refine fT (fun o => o) (.tmp _ _ _ _ rfl .nil) ?_ ?_
  · exact rfl
  · exact trivial
end Go.Proofs.YtcjnecmgificmaaDoor
