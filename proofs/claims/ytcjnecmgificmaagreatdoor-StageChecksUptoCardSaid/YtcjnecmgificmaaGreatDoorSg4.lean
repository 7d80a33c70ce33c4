/- The law StageChecks, over data. -/
import Derived.Test.YtcjnecmgificmaaGreatDoorSg2
import Derived.Test.YtcjnecmgificmaaGreatDoorSg3
--%T
namespace Go.Proofs.YtcjnecmgificmaaGreatDoor
open Go.RowKit Go.Sort
set_option linter.unusedVariables false
set_option linter.unusedSimpArgs false
set_option maxRecDepth 100000

theorem law_StageChecks (x0 : List PV) (ty0 : Ty Tryz.prog 10 46 x0) (hb0 : PV.bdL 1048576 x0) : Fn Tryz.prog 6 [argAV true x0] (.p (.v (.bool true))) [] := by
  obtain ⟨s, ok, rfl⟩ := SG.of_ty ty0 hb0
  have p1 := sgCheck_s s ok
  have p2 := sgCopy_s s ok
  have q1 := refStage_s s ok
  have p4 := sameStage_s s ok
  generalize sgE s = e1 at *
  obtain ⟨lv, rest, c, at_, err⟩ := s
  obtain ⟨key, port, ps⟩ := c
  dsimp only at p2
  change Fn Tryz.prog _ [.agg (sgC lv rest.length (rest.flatMap SE.pv) key port ps.length (ps.flatMap PE.pv) at_ err)] _ _ at p1
  change Fn Tryz.prog _ [.agg (sgC lv rest.length (rest.flatMap SE.pv) key port ps.length (ps.flatMap PE.pv) at_ err)] _ _ at p2
  change Fn Tryz.prog _ [.agg (sgC lv rest.length (rest.flatMap SE.pv) key port ps.length (ps.flatMap PE.pv) at_ err)] _ _ at q1
  change Fn Tryz.prog _ [.agg (sgC lv rest.length (rest.flatMap SE.pv) key port ps.length (ps.flatMap PE.pv) at_ err), .agg (sgC lv rest.length (rest.flatMap SE.pv) key port ps.length (ps.flatMap PE.pv) at_ err)] _ _ at p4
  show Fn Tryz.prog _ [.agg (sgC lv rest.length (rest.flatMap SE.pv) key port ps.length (ps.flatMap PE.pv) at_ err)] _ _
  clear ok
  generalize ps.flatMap PE.pv = L at *
  generalize ps.length = M at *
  generalize rest.flatMap SE.pv = R at *
  generalize rest.length = N at *
  refine fn_intro Tryz.func6 rfl (Nat.le_of_ble_eq_true rfl) fun w0 A => ?_
  refine awp_seq ?_
  refine tx ?_
  refine r_run (a_box (X := .agg _) 1 rfl) rfl rfl ⟨rfl, trivial⟩ ?_
  refine aP rfl rfl ?_
  refine arun_nil ?_
  refine awp_seq ?_
  refine tx ?_
  refine lN Tryz.underlying46 rfl sz46 rfl rfl ⟨rfl, trivial⟩ ?_
  refine r_callS (fun n => 7 + 1000 * n) (p1) rfl rfl Tryz.func20 rfl rfl (by first | rfl | simp [AV.okInL, AV.okIn, okInL_map]) rfl rfl rfl (by first | exact trivial | exact ⟨rfl, trivial⟩ | exact ⟨rfl, rfl, trivial⟩) rfl rfl rfl ?_
  refine aP rfl rfl ?_
  refine arun_nil ?_
  refine awp_seq ?_
  refine tx ?_
  refine lN Tryz.underlying46 rfl sz46 rfl rfl ⟨rfl, trivial⟩ ?_
  refine r_callS (fun n => 9 + 1000 * n) (p2) rfl rfl Tryz.func21 rfl rfl (by first | rfl | simp [AV.okInL, AV.okIn, okInL_map]) rfl rfl rfl (by first | exact trivial | exact ⟨rfl, trivial⟩ | exact ⟨rfl, rfl, trivial⟩) rfl rfl rfl ?_
  refine r_run (a_alloc 4 zr46 rfl) rfl rfl ⟨rfl, trivial⟩ ?_
  refine r_run (a_storeAll (Y := .agg _) sz46 rfl (by first | exact Nat.eq_of_beq_eq_true rfl | (simp only [AV.cells, List.length_map]; first | assumption | omega)) (Nat.eq_of_beq_eq_true rfl)) rfl rfl ⟨rfl, trivial⟩ ?_
  refine arun_nil ?_
  refine awp_seq ?_
  refine tx ?_
  refine lN Tryz.underlying46 rfl sz46 rfl rfl ⟨rfl, trivial⟩ ?_
  refine r_callS (fun n => 11 + 1000 * n) (q1) rfl rfl Tryz.func22 rfl rfl (by first | rfl | simp [AV.okInL, AV.okIn, okInL_map]) rfl rfl rfl (by first | exact trivial | exact ⟨rfl, trivial⟩ | exact ⟨rfl, rfl, trivial⟩) rfl rfl rfl ?_
  refine aP rfl rfl ?_
  refine arun_nil ?_
  refine awp_seq ?_
  refine tx ?_
  refine mP rfl rfl ?_
  refine mP rfl rfl ?_
  refine r_pure a_eqlT rfl rfl ?_
  refine mP rfl rfl ?_
  refine lN Tryz.underlying46 rfl sz46 rfl rfl ⟨rfl, trivial⟩ ?_
  refine lN Tryz.underlying46 rfl sz46 rfl rfl ⟨rfl, trivial⟩ ?_
  refine r_callV (fun n => 18 + 1000 * n) (p4) rfl rfl Tryz.func23 rfl rfl (by first | rfl | simp [AV.noSl, AV.noSlL, AObj.noSl, PV.isV, bs_noSl]) (by first | rfl | simp [AV.noSl, AV.noSlL, AObj.noSl, PV.isV, bs_noSl]) rfl rfl rfl (by first | exact trivial | exact ⟨rfl, trivial⟩ | exact ⟨rfl, rfl, trivial⟩) rfl rfl rfl ?_
  refine r_pure a_pickT rfl rfl ?_
  refine aP rfl rfl ?_
  refine arun_nil ?_
  refine awp_ret ?_
  refine fT (fun o => o) (.tmp _ _ _ _ rfl .nil) ?_ ?_
  · exact rfl
  · exact trivial
end Go.Proofs.YtcjnecmgificmaaGreatDoor
