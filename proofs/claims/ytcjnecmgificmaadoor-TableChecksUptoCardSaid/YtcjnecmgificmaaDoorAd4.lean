/- The laws AddrEnds, AddrTells, over data. -/
import Derived.Test.YtcjnecmgificmaaDoorAd3
import Derived.Test.YtcjnecmgificmaaDoorGi
--%T
namespace Go.Proofs.YtcjnecmgificmaaDoor
open Go.RowKit Go.Sort
set_option linter.unusedVariables false
set_option linter.unusedSimpArgs false
set_option maxRecDepth 100000

theorem bd_str {N : Nat} {s : ByteArray} (h : PV.bdL N [.v (.string s)]) : s.size ≤ N := by simpa [PV.bdL, PV.bd] using h
theorem law_AddrEnds (x0 : List PV) (ty0 : Ty Tryd.prog 10 9 x0) (hb0 : PV.bdL 1048576 x0) (x1 : List PV) (ty1 : Ty Tryd.prog 10 3 x1) (hb1 : PV.bdL 1048576 x1) :
    Fn Tryd.prog 3 [argAV false x0, argAV false x1] (.p (.v (.bool true))) [] := by
  obtain ⟨s, rfl, _⟩ := ty_string Tryd.underlying9 ty0
  obtain ⟨most, rfl, hm⟩ := ty_int Tryd.underlying3 ty1
  have hs := bd_str hb0
  have p1 := number_s s most (by omega)
  have q1 := refNum_s s most (by omega)
  have p2 := end_s s (by omega)
  have q2 := refEnd_s s (by omega)
  show Fn Tryd.prog 3 [.p (.v (.string s)), .p (.v (.int .i64 most))] (.p (.v (.bool true))) []
  have hR : ∃ a b e : Int, enR s = .tup [.p (.v (.int .u32 a)), .p (.v (.int .i64 b)), .p (.v (.int .i64 e))] := by
    unfold enR; split <;> exact ⟨_, _, _, rfl⟩
  obtain ⟨a, b, e, hR⟩ := hR
  rw [hR] at p2 q2
  unfold numR at p1 q1
  generalize numE s most = ne at *
  generalize numV s most = nv at *
  refine fn_intro Tryd.func3 rfl (Nat.le_of_ble_eq_true rfl) fun w0 A => ?_
  refine awp_seq ?_
  refine tx ?_
  refine aP rfl rfl ?_
  refine arun_nil ?_
  refine awp_seq ?_
  refine tx ?_
  refine mP rfl rfl ?_
  refine mP rfl rfl ?_
  refine r_callV (fun n => 18 + 1000 * n) (p1) rfl rfl Tryd.func11 rfl rfl (by first | rfl | simp [AV.noSl, AV.noSlL, AObj.noSl, PV.isV, bs_noSl]) (by first | rfl | simp [AV.noSl, AV.noSlL, AObj.noSl, PV.isV, bs_noSl]) rfl rfl rfl (by first | exact trivial | exact ⟨rfl, trivial⟩ | exact ⟨rfl, rfl, trivial⟩) rfl rfl rfl ?_
  refine r_pure (a_move (r := .tup _)) rfl rfl ?_
  refine r_pure (a_extract rfl) rfl rfl ?_
  refine r_pure (a_extract rfl) rfl rfl ?_
  refine aP rfl rfl ?_
  refine aP rfl rfl ?_
  refine arun_nil ?_
  refine awp_seq ?_
  refine tx ?_
  refine mP rfl rfl ?_
  refine r_callV (fun n => 23 + 1000 * n) (p2) rfl rfl Tryd.func12 rfl rfl (by first | rfl | simp [AV.noSl, AV.noSlL, AObj.noSl, PV.isV, bs_noSl]) (by first | rfl | simp [AV.noSl, AV.noSlL, AObj.noSl, PV.isV, bs_noSl]) rfl rfl rfl (by first | exact trivial | exact ⟨rfl, trivial⟩ | exact ⟨rfl, rfl, trivial⟩) rfl rfl rfl ?_
  refine r_pure (a_move (r := .tup _)) rfl rfl ?_
  refine r_pure (a_extract rfl) rfl rfl ?_
  refine r_pure (a_extract rfl) rfl rfl ?_
  refine r_pure (a_extract rfl) rfl rfl ?_
  refine aP rfl rfl ?_
  refine aP rfl rfl ?_
  refine aP rfl rfl ?_
  refine arun_nil ?_
  refine awp_seq ?_
  refine tx ?_
  refine mP rfl rfl ?_
  refine mP rfl rfl ?_
  refine r_callV (fun n => 30 + 1000 * n) (q1) rfl rfl Tryd.func13 rfl rfl (by first | rfl | simp [AV.noSl, AV.noSlL, AObj.noSl, PV.isV, bs_noSl]) (by first | rfl | simp [AV.noSl, AV.noSlL, AObj.noSl, PV.isV, bs_noSl]) rfl rfl rfl (by first | exact trivial | exact ⟨rfl, trivial⟩ | exact ⟨rfl, rfl, trivial⟩) rfl rfl rfl ?_
  refine r_pure (a_move (r := .tup _)) rfl rfl ?_
  refine r_pure (a_extract rfl) rfl rfl ?_
  refine r_pure (a_extract rfl) rfl rfl ?_
  refine aP rfl rfl ?_
  refine aP rfl rfl ?_
  refine arun_nil ?_
  refine awp_seq ?_
  refine tx ?_
  refine mP rfl rfl ?_
  refine r_callV (fun n => 35 + 1000 * n) (q2) rfl rfl Tryd.func14 rfl rfl (by first | rfl | simp [AV.noSl, AV.noSlL, AObj.noSl, PV.isV, bs_noSl]) (by first | rfl | simp [AV.noSl, AV.noSlL, AObj.noSl, PV.isV, bs_noSl]) rfl rfl rfl (by first | exact trivial | exact ⟨rfl, trivial⟩ | exact ⟨rfl, rfl, trivial⟩) rfl rfl rfl ?_
  refine r_pure (a_move (r := .tup _)) rfl rfl ?_
  refine r_pure (a_extract rfl) rfl rfl ?_
  refine r_pure (a_extract rfl) rfl rfl ?_
  refine r_pure (a_extract rfl) rfl rfl ?_
  refine aP rfl rfl ?_
  refine aP rfl rfl ?_
  refine aP rfl rfl ?_
  refine arun_nil ?_
  refine awp_seq ?_
  refine tx ?_
  refine mP rfl rfl ?_
  refine mP rfl rfl ?_
  refine r_pure a_eqlT rfl rfl ?_
  refine mP rfl rfl ?_
  refine mP rfl rfl ?_
  refine mP rfl rfl ?_
  refine r_pure a_eqlT rfl rfl ?_
  refine r_pure a_pickT rfl rfl ?_
  refine mP rfl rfl ?_
  refine mP rfl rfl ?_
  refine mP rfl rfl ?_
  refine r_pure a_eqlT rfl rfl ?_
  refine r_pure a_pickT rfl rfl ?_
  refine mP rfl rfl ?_
  refine mP rfl rfl ?_
  refine mP rfl rfl ?_
  refine r_pure a_eqlT rfl rfl ?_
  refine r_pure a_pickT rfl rfl ?_
  refine mP rfl rfl ?_
  refine mP rfl rfl ?_
  refine mP rfl rfl ?_
  refine r_pure a_eqlT rfl rfl ?_
  refine r_pure a_pickT rfl rfl ?_
  refine aP rfl rfl ?_
  refine arun_nil ?_
  refine awp_ret ?_
  refine fT (fun o => o) (.tmp _ _ _ _ rfl .nil) ?_ ?_
  · exact rfl
  · exact trivial
theorem law_AddrTells (x0 : List PV) (ty0 : Ty Tryd.prog 10 25 x0) (hb0 : PV.bdL 1048576 x0) (x1 : List PV) (ty1 : Ty Tryd.prog 10 9 x1) (hb1 : PV.bdL 1048576 x1) :
    Fn Tryd.prog 4 [argAV false x0, argAV false x1] (.p (.v (.bool true))) [] := by
  obtain ⟨a, rfl, ha⟩ := ty_int Tryd.underlying25 ty0
  obtain ⟨s, rfl, _⟩ := ty_string Tryd.underlying9 ty1
  obtain ⟨a0, a1⟩ := wf_u32 ha
  have hs := bd_str hb1
  have p1 := adText_s a a0 (by omega)
  have q1 := refAdText_s a a0 (by omega)
  have p2 := parse_s s (by omega)
  have q2 := refAddr_s s (by omega)
  show Fn Tryd.prog 4 [.p (.v (.int .u32 a)), .p (.v (.string s))] (.p (.v (.bool true))) []
  rw [adR_eq] at p2 q2
  generalize adE s = e at *
  generalize adA s = A at *
  generalize adT a = T at *
  refine fn_intro Tryd.func4 rfl (Nat.le_of_ble_eq_true rfl) fun w0 A => ?_
  refine awp_seq ?_
  refine tx ?_
  refine aP rfl rfl ?_
  refine arun_nil ?_
  refine awp_seq ?_
  refine tx ?_
  refine mP rfl rfl ?_
  refine r_callV (fun n => 12 + 1000 * n) (p1) rfl rfl Tryd.func15 rfl rfl (by first | rfl | simp [AV.noSl, AV.noSlL, AObj.noSl, PV.isV, bs_noSl]) (by first | rfl | simp [AV.noSl, AV.noSlL, AObj.noSl, PV.isV, bs_noSl]) rfl rfl rfl (by first | exact trivial | exact ⟨rfl, trivial⟩ | exact ⟨rfl, rfl, trivial⟩) rfl rfl rfl ?_
  refine aP rfl rfl ?_
  refine arun_nil ?_
  refine awp_seq ?_
  refine tx ?_
  refine mP rfl rfl ?_
  refine r_callV (fun n => 15 + 1000 * n) (p2) rfl rfl Tryd.func16 rfl rfl (by first | rfl | simp [AV.noSl, AV.noSlL, AObj.noSl, PV.isV, bs_noSl]) (by first | rfl | simp [AV.noSl, AV.noSlL, AObj.noSl, PV.isV, bs_noSl]) rfl rfl rfl (by first | exact trivial | exact ⟨rfl, trivial⟩ | exact ⟨rfl, rfl, trivial⟩) rfl rfl rfl ?_
  refine r_pure (a_move (r := .tup _)) rfl rfl ?_
  refine r_pure (a_extract rfl) rfl rfl ?_
  refine r_pure (a_extract rfl) rfl rfl ?_
  refine aP rfl rfl ?_
  refine aP rfl rfl ?_
  refine arun_nil ?_
  refine awp_seq ?_
  refine tx ?_
  refine mP rfl rfl ?_
  refine r_callV (fun n => 19 + 1000 * n) (q1) rfl rfl Tryd.func17 rfl rfl (by first | rfl | simp [AV.noSl, AV.noSlL, AObj.noSl, PV.isV, bs_noSl]) (by first | rfl | simp [AV.noSl, AV.noSlL, AObj.noSl, PV.isV, bs_noSl]) rfl rfl rfl (by first | exact trivial | exact ⟨rfl, trivial⟩ | exact ⟨rfl, rfl, trivial⟩) rfl rfl rfl ?_
  refine aP rfl rfl ?_
  refine arun_nil ?_
  refine awp_seq ?_
  refine tx ?_
  refine mP rfl rfl ?_
  refine r_callV (fun n => 22 + 1000 * n) (q2) rfl rfl Tryd.func18 rfl rfl (by first | rfl | simp [AV.noSl, AV.noSlL, AObj.noSl, PV.isV, bs_noSl]) (by first | rfl | simp [AV.noSl, AV.noSlL, AObj.noSl, PV.isV, bs_noSl]) rfl rfl rfl (by first | exact trivial | exact ⟨rfl, trivial⟩ | exact ⟨rfl, rfl, trivial⟩) rfl rfl rfl ?_
  refine r_pure (a_move (r := .tup _)) rfl rfl ?_
  refine r_pure (a_extract rfl) rfl rfl ?_
  refine r_pure (a_extract rfl) rfl rfl ?_
  refine aP rfl rfl ?_
  refine aP rfl rfl ?_
  refine arun_nil ?_
  refine awp_seq ?_
  refine tx ?_
  refine mP rfl rfl ?_
  refine mP rfl rfl ?_
  refine r_pure a_seqlT rfl rfl ?_
  refine mP rfl rfl ?_
  refine mP rfl rfl ?_
  refine mP rfl rfl ?_
  refine r_pure a_eqlT rfl rfl ?_
  refine r_pure a_pickT rfl rfl ?_
  refine mP rfl rfl ?_
  refine mP rfl rfl ?_
  refine mP rfl rfl ?_
  refine r_pure a_eqlT rfl rfl ?_
  refine r_pure a_pickT rfl rfl ?_
  refine aP rfl rfl ?_
  refine arun_nil ?_
  refine awp_ret ?_
  refine fT (fun o => o) (.tmp _ _ _ _ rfl .nil) ?_ ?_
  · exact rfl
  · exact trivial
end Go.Proofs.YtcjnecmgificmaaDoor
