/- stage.Copy, the law's sameStage, the law StageChecks, over data. -/
import Derived.Test.YtgpleldhddpcgaaGreatDoorSSg1
import Derived.Test.YtgpleldhddpcgaaGreatDoorSCf5
import Derived.Test.YtgpleldhddpcgaaGreatDoorSCf6
import Derived.Test.YtgpleldhddpcgaaGreatDoorSBp2
namespace Go.Proofs.YtgpleldhddpcgaaGreatDoor
open Go.RowKit Go.Sort
set_option linter.unusedVariables false
set_option linter.unusedSimpArgs false
set_option maxRecDepth 100000
theorem sameStageP (lv : Bool) (P Q : PV) (key : ByteArray) (port : Int) (at_ : ByteArray) (err : Int) (hS : Fn Tryz.prog 33 [.p P, .p P] (.p (.v (.bool true))) [])
    (hC : Fn Tryz.prog 34 [.agg [.p (.v (.string key)), .p (.v (.int .i64 port)), .p Q], .agg [.p (.v (.string key)), .p (.v (.int .i64 port)), .p Q]] (.p (.v (.bool true))) []) :
    Fn Tryz.prog 14 [.agg [.p (.v (.bool lv)), .p P, .p (.v (.string key)), .p (.v (.int .i64 port)), .p Q, .p (.v (.string at_)), .p (.v (.int .i64 err))], .agg [.p (.v (.bool lv)), .p P, .p (.v (.string key)), .p (.v (.int .i64 port)), .p Q, .p (.v (.string at_)), .p (.v (.int .i64 err))]] (.p (.v (.bool true))) [] := by
  refine fn_intro Tryz.func14 rfl (Nat.le_of_ble_eq_true rfl) fun w0 A => ?_
  refine awp_seq ?_
  refine tx ?_
  refine r_run (a_box (X := .agg _) 2 rfl) rfl rfl ⟨rfl, trivial⟩ ?_
  refine r_run (a_box (X := .agg _) 3 rfl) rfl rfl ⟨rfl, trivial⟩ ?_
  refine aP rfl rfl ?_
  refine arun_nil ?_
  refine awp_seq ?_
  refine tx ?_
  refine fA fi35_0 rfl rfl ?_
  refine l1 Tryz.underlying4 rfl rfl rfl ⟨rfl, trivial⟩ ?_
  refine fA fi35_0 rfl rfl ?_
  refine l1 Tryz.underlying4 rfl rfl rfl ⟨rfl, trivial⟩ ?_
  refine r_pure (a_beqlT Tryz.underlying4) rfl rfl ?_
  refine mP rfl rfl ?_
  refine fA fi35_1 rfl rfl ?_
  refine l1 Tryz.underlying33 rfl rfl rfl ⟨rfl, trivial⟩ ?_
  refine fA fi35_1 rfl rfl ?_
  refine l1 Tryz.underlying33 rfl rfl rfl ⟨rfl, trivial⟩ ?_
  refine r_callS (fun n => 15 + 1000 * n) (hS) rfl rfl Tryz.func33 rfl rfl (by first | rfl | simp [AV.okInL, AV.okIn, okInL_map]) rfl rfl rfl (by first | exact trivial | exact ⟨rfl, trivial⟩ | exact ⟨rfl, rfl, trivial⟩) rfl rfl rfl ?_
  refine r_pure a_pickT rfl rfl ?_
  refine mP rfl rfl ?_
  refine fA fi35_2 rfl rfl ?_
  refine lN Tryz.underlying24 rfl sz24 rfl rfl ⟨rfl, trivial⟩ ?_
  refine fA fi35_2 rfl rfl ?_
  refine lN Tryz.underlying24 rfl sz24 rfl rfl ⟨rfl, trivial⟩ ?_
  refine r_callS (fun n => 22 + 1000 * n) (hC) rfl rfl Tryz.func34 rfl rfl (by first | rfl | simp [AV.okInL, AV.okIn, okInL_map]) rfl rfl rfl (by first | exact trivial | exact ⟨rfl, trivial⟩ | exact ⟨rfl, rfl, trivial⟩) rfl rfl rfl ?_
  refine r_pure a_pickT rfl rfl ?_
  refine mP rfl rfl ?_
  refine fA fi35_3 rfl rfl ?_
  refine l1 Tryz.underlying9 rfl rfl rfl ⟨rfl, trivial⟩ ?_
  refine fA fi35_3 rfl rfl ?_
  refine l1 Tryz.underlying9 rfl rfl rfl ⟨rfl, trivial⟩ ?_
  refine r_pure a_seqlT rfl rfl ?_
  refine r_pure a_pickT rfl rfl ?_
  refine mP rfl rfl ?_
  refine fA fi35_4 rfl rfl ?_
  refine l1 Tryz.underlying26 rfl rfl rfl ⟨rfl, trivial⟩ ?_
  refine fA fi35_4 rfl rfl ?_
  refine l1 Tryz.underlying26 rfl rfl rfl ⟨rfl, trivial⟩ ?_
  refine r_pure a_eqlT rfl rfl ?_
  refine r_pure a_pickT rfl rfl ?_
  refine aP rfl rfl ?_
  refine arun_nil ?_
  refine awp_ret ?_
  refine fT (fun o => o) (.tmp _ _ _ _ rfl .nil) ?_ ?_
  · exact rfl
  · exact trivial
end Go.Proofs.YtgpleldhddpcgaaGreatDoor
