/- The law ConfChecks, over data. -/
import Derived.Test.YtcjnecmgificmaaGreatDoorCf4
import Derived.Test.YtcjnecmgificmaaGreatDoorCf5
import Derived.Test.YtcjnecmgificmaaGreatDoorCf6
--%T
namespace Go.Proofs.YtcjnecmgificmaaGreatDoor
open Go.RowKit Go.Sort
set_option linter.unusedVariables false
set_option linter.unusedSimpArgs false
set_option maxRecDepth 100000

theorem law_ConfChecks (x0 : List PV) (ty0 : Ty Tryz.prog 10 27 x0) (hb0 : PV.bdL 1048576 x0) (x1 : List PV) (ty1 : Ty Tryz.prog 10 9 x1) (hb1 : PV.bdL 1048576 x1) :
    Fn Tryz.prog 4 [argAV true x0, argAV false x1] (.p (.v (.bool true))) [] := by
  obtain ⟨c, ok, rfl⟩ := CF.of_ty ty0 hb0
  obtain ⟨k, rfl, _⟩ := ty_string Tryz.underlying9 ty1
  have p1 := cfCheck_s c ok
  have p2 := find_s c ok k
  have p3 := cfCopy_s c ok
  have q1 := refConf_s c ok
  have q2 := peerAt_s c ok k
  have p4 := sameConf_s c ok
  generalize cfE c = e1 at *
  have hle := peN_le k c.ps
  obtain ⟨key, port, l⟩ := c
  have hn := ok.len
  dsimp only at hn hle p2 p3 q2
  change Fn Tryz.prog _ [.agg [.p (.v (.string key)), .p (.v (.int .i64 port)), .p (.sl l.length 5 (l.flatMap PE.pv))]] _ _ at p1
  change Fn Tryz.prog _ [.agg [.p (.v (.string key)), .p (.v (.int .i64 port)), .p (.sl l.length 5 (l.flatMap PE.pv))], _] _ _ at p2
  change Fn Tryz.prog _ [.agg [.p (.v (.string key)), .p (.v (.int .i64 port)), .p (.sl l.length 5 (l.flatMap PE.pv))]] _ _ at p3
  change Fn Tryz.prog _ [.agg [.p (.v (.string key)), .p (.v (.int .i64 port)), .p (.sl l.length 5 (l.flatMap PE.pv))]] _ _ at q1
  change Fn Tryz.prog _ [.agg [.p (.v (.string key)), .p (.v (.int .i64 port)), .p (.sl l.length 5 (l.flatMap PE.pv))], _] _ _ at q2
  change Fn Tryz.prog _ [.agg [.p (.v (.string key)), .p (.v (.int .i64 port)), .p (.sl l.length 5 (l.flatMap PE.pv))], .agg [.p (.v (.string key)), .p (.v (.int .i64 port)), .p (.sl l.length 5 (l.flatMap PE.pv))]] _ _ at p4
  show Fn Tryz.prog _ [.agg [.p (.v (.string key)), .p (.v (.int .i64 port)), .p (.sl l.length 5 (l.flatMap PE.pv))], .p (.v (.string k))] _ _
  clear ok
  generalize peN k l = n at *
  generalize l.flatMap PE.pv = L at *
  generalize l.length = N at *
  by_cases hc : n < N
  · rw [if_pos hc] at p2
    refine fn_intro Tryz.func4 rfl (Nat.le_of_ble_eq_true rfl) fun w0 A => ?_
    refine awp_seq ?_
    refine tx ?_
    refine r_run (a_box (X := .agg _) 2 rfl) rfl rfl ⟨rfl, trivial⟩ ?_
    refine aP rfl rfl ?_
    refine arun_nil ?_
    refine awp_seq ?_
    refine tx ?_
    refine lN Tryz.underlying27 rfl sz27 rfl rfl ⟨rfl, trivial⟩ ?_
    refine r_callS (fun n => 12 + 1000 * n) (p1) rfl rfl Tryz.func12 rfl rfl (by first | rfl | simp [AV.okInL, AV.okIn, okInL_map]) rfl rfl rfl (by first | exact trivial | exact ⟨rfl, trivial⟩ | exact ⟨rfl, rfl, trivial⟩) rfl rfl rfl ?_
    refine aP rfl rfl ?_
    refine arun_nil ?_
    refine awp_seq ?_
    refine tx ?_
    refine lN Tryz.underlying27 rfl sz27 rfl rfl ⟨rfl, trivial⟩ ?_
    refine mP rfl rfl ?_
    refine r_callS (fun n => 16 + 1000 * n) (p2) rfl rfl Tryz.func13 rfl rfl (by first | rfl | simp [AV.okInL, AV.okIn, okInL_map]) rfl rfl rfl (by first | exact trivial | exact ⟨rfl, trivial⟩ | exact ⟨rfl, rfl, trivial⟩) rfl rfl rfl ?_
    refine r_pure (a_move (r := .tup _)) rfl rfl ?_
    refine r_pure (a_extract rfl) rfl rfl ?_
    refine r_pure (a_extract rfl) rfl rfl ?_
    refine aP rfl rfl ?_
    refine aP rfl rfl ?_
    refine arun_nil ?_
    refine awp_seq ?_
    refine tx ?_
    refine lN Tryz.underlying27 rfl sz27 rfl rfl ⟨rfl, trivial⟩ ?_
    refine r_callS (fun n => 20 + 1000 * n) (p3) rfl rfl Tryz.func14 rfl rfl (by first | rfl | simp [AV.okInL, AV.okIn, okInL_map]) rfl rfl rfl (by first | exact trivial | exact ⟨rfl, trivial⟩ | exact ⟨rfl, rfl, trivial⟩) rfl rfl rfl ?_
    refine r_run (a_alloc 8 zr27 rfl) rfl rfl ⟨rfl, trivial⟩ ?_
    refine r_run (a_storeAll (Y := .agg _) sz27 rfl (by first | exact Nat.eq_of_beq_eq_true rfl | (simp only [AV.cells, List.length_map]; first | assumption | omega)) (Nat.eq_of_beq_eq_true rfl)) rfl rfl ⟨rfl, trivial⟩ ?_
    refine arun_nil ?_
    refine awp_seq ?_
    refine tx ?_
    refine lN Tryz.underlying27 rfl sz27 rfl rfl ⟨rfl, trivial⟩ ?_
    refine r_callS (fun n => 22 + 1000 * n) (q1) rfl rfl Tryz.func15 rfl rfl (by first | rfl | simp [AV.okInL, AV.okIn, okInL_map]) rfl rfl rfl (by first | exact trivial | exact ⟨rfl, trivial⟩ | exact ⟨rfl, rfl, trivial⟩) rfl rfl rfl ?_
    refine aP rfl rfl ?_
    refine arun_nil ?_
    refine awp_seq ?_
    refine tx ?_
    refine lN Tryz.underlying27 rfl sz27 rfl rfl ⟨rfl, trivial⟩ ?_
    refine mP rfl rfl ?_
    refine r_callS (fun n => 25 + 1000 * n) (q2) rfl rfl Tryz.func16 rfl rfl (by first | rfl | simp [AV.okInL, AV.okIn, okInL_map]) rfl rfl rfl (by first | exact trivial | exact ⟨rfl, trivial⟩ | exact ⟨rfl, rfl, trivial⟩) rfl rfl rfl ?_
    refine aP rfl rfl ?_
    refine arun_nil ?_
    refine awp_seq ?_
    refine tx ?_
    refine mP rfl rfl ?_
    refine mP rfl rfl ?_
    refine r_pure a_eqlT rfl rfl ?_
    refine mP rfl rfl ?_
    refine mP rfl rfl ?_
    refine r_pure a_eqlT rfl rfl ?_
    refine mP rfl rfl ?_
    refine mP rfl rfl ?_
    refine mP rfl rfl ?_
    refine r_pure a_eqlT rfl rfl ?_
    refine r_pure a_pickT rfl rfl ?_
    refine mP rfl rfl ?_
    refine r_skipG rfl ?_
    refine r_skipG rfl ?_
    refine r_skipG rfl ?_
    refine r_skipG rfl ?_
    refine r_skipG rfl ?_
    refine r_skipG rfl ?_
    refine r_skipG rfl ?_
    refine r_skipG rfl ?_
    refine r_skipG rfl ?_
    refine r_skipG rfl ?_
    refine r_skipG rfl ?_
    refine r_skipG rfl ?_
    refine r_skipG rfl ?_
    refine r_pure a_pickT rfl rfl ?_
    refine r_pure a_pickT rfl rfl ?_
    refine mP rfl rfl ?_
    refine lN Tryz.underlying27 rfl sz27 rfl rfl ⟨rfl, trivial⟩ ?_
    refine lN Tryz.underlying27 rfl sz27 rfl rfl ⟨rfl, trivial⟩ ?_
    refine r_callV (fun n => 56 + 1000 * n) (p4) rfl rfl Tryz.func17 rfl rfl (by first | rfl | simp [AV.noSl, AV.noSlL, AObj.noSl, PV.isV, bs_noSl]) (by first | rfl | simp [AV.noSl, AV.noSlL, AObj.noSl, PV.isV, bs_noSl]) rfl rfl rfl (by first | exact trivial | exact ⟨rfl, trivial⟩ | exact ⟨rfl, rfl, trivial⟩) rfl rfl rfl ?_
    refine r_pure a_pickT rfl rfl ?_
    refine aP rfl rfl ?_
    refine arun_nil ?_
    refine awp_ret ?_
    refine fT (fun o => o) (.tmp _ _ _ _ rfl .nil) ?_ ?_
    · exact rfl
    · exact trivial
  · rw [if_neg hc] at p2
    have hnN : n = N := by omega
    subst hnN
    refine fn_intro Tryz.func4 rfl (Nat.le_of_ble_eq_true rfl) fun w0 A => ?_
    refine awp_seq ?_
    refine tx ?_
    refine r_run (a_box (X := .agg _) 2 rfl) rfl rfl ⟨rfl, trivial⟩ ?_
    refine aP rfl rfl ?_
    refine arun_nil ?_
    refine awp_seq ?_
    refine tx ?_
    refine lN Tryz.underlying27 rfl sz27 rfl rfl ⟨rfl, trivial⟩ ?_
    refine r_callS (fun n => 12 + 1000 * n) (p1) rfl rfl Tryz.func12 rfl rfl (by first | rfl | simp [AV.okInL, AV.okIn, okInL_map]) rfl rfl rfl (by first | exact trivial | exact ⟨rfl, trivial⟩ | exact ⟨rfl, rfl, trivial⟩) rfl rfl rfl ?_
    refine aP rfl rfl ?_
    refine arun_nil ?_
    refine awp_seq ?_
    refine tx ?_
    refine lN Tryz.underlying27 rfl sz27 rfl rfl ⟨rfl, trivial⟩ ?_
    refine mP rfl rfl ?_
    refine r_callS (fun n => 16 + 1000 * n) (p2) rfl rfl Tryz.func13 rfl rfl (by first | rfl | simp [AV.okInL, AV.okIn, okInL_map]) rfl rfl rfl (by first | exact trivial | exact ⟨rfl, trivial⟩ | exact ⟨rfl, rfl, trivial⟩) rfl rfl rfl ?_
    refine r_pure (a_move (r := .tup _)) rfl rfl ?_
    refine r_pure (a_extract rfl) rfl rfl ?_
    refine r_pure (a_extract rfl) rfl rfl ?_
    refine aP rfl rfl ?_
    refine aP rfl rfl ?_
    refine arun_nil ?_
    refine awp_seq ?_
    refine tx ?_
    refine lN Tryz.underlying27 rfl sz27 rfl rfl ⟨rfl, trivial⟩ ?_
    refine r_callS (fun n => 20 + 1000 * n) (p3) rfl rfl Tryz.func14 rfl rfl (by first | rfl | simp [AV.okInL, AV.okIn, okInL_map]) rfl rfl rfl (by first | exact trivial | exact ⟨rfl, trivial⟩ | exact ⟨rfl, rfl, trivial⟩) rfl rfl rfl ?_
    refine r_run (a_alloc 8 zr27 rfl) rfl rfl ⟨rfl, trivial⟩ ?_
    refine r_run (a_storeAll (Y := .agg _) sz27 rfl (by first | exact Nat.eq_of_beq_eq_true rfl | (simp only [AV.cells, List.length_map]; first | assumption | omega)) (Nat.eq_of_beq_eq_true rfl)) rfl rfl ⟨rfl, trivial⟩ ?_
    refine arun_nil ?_
    refine awp_seq ?_
    refine tx ?_
    refine lN Tryz.underlying27 rfl sz27 rfl rfl ⟨rfl, trivial⟩ ?_
    refine r_callS (fun n => 22 + 1000 * n) (q1) rfl rfl Tryz.func15 rfl rfl (by first | rfl | simp [AV.okInL, AV.okIn, okInL_map]) rfl rfl rfl (by first | exact trivial | exact ⟨rfl, trivial⟩ | exact ⟨rfl, rfl, trivial⟩) rfl rfl rfl ?_
    refine aP rfl rfl ?_
    refine arun_nil ?_
    refine awp_seq ?_
    refine tx ?_
    refine lN Tryz.underlying27 rfl sz27 rfl rfl ⟨rfl, trivial⟩ ?_
    refine mP rfl rfl ?_
    refine r_callS (fun n => 25 + 1000 * n) (q2) rfl rfl Tryz.func16 rfl rfl (by first | rfl | simp [AV.okInL, AV.okIn, okInL_map]) rfl rfl rfl (by first | exact trivial | exact ⟨rfl, trivial⟩ | exact ⟨rfl, rfl, trivial⟩) rfl rfl rfl ?_
    refine aP rfl rfl ?_
    refine arun_nil ?_
    refine awp_seq ?_
    refine tx ?_
    refine mP rfl rfl ?_
    refine mP rfl rfl ?_
    refine r_pure a_eqlT rfl rfl ?_
    refine mP rfl rfl ?_
    refine mP rfl rfl ?_
    refine r_pure a_eql rfl rfl ?_
    refine mP rfl rfl ?_
    refine r_skipG rfl ?_
    refine r_skipG rfl ?_
    refine r_skipG rfl ?_
    refine r_pure a_pickF rfl rfl ?_
    refine mP rfl rfl ?_
    refine mP rfl rfl ?_
    refine r_pure a_eqlT rfl rfl ?_
    refine mP rfl rfl ?_
    refine mP rfl rfl ?_
    refine r_pure a_eqlT rfl rfl ?_
    refine r_pure a_pickT rfl rfl ?_
    refine mP rfl rfl ?_
    refine mP rfl rfl ?_
    refine fA fi27_2 rfl rfl ?_
    refine l1 Tryz.underlying25 rfl rfl rfl ⟨rfl, trivial⟩ ?_
    refine r_pure (a_lenS Tryz.underlying25) rfl rfl ?_
    refine r_pure a_eqlT rfl rfl ?_
    refine r_pure a_pickT rfl rfl ?_
    refine r_pure a_pickF rfl rfl ?_
    refine r_pure a_pickT rfl rfl ?_
    refine mP rfl rfl ?_
    refine lN Tryz.underlying27 rfl sz27 rfl rfl ⟨rfl, trivial⟩ ?_
    refine lN Tryz.underlying27 rfl sz27 rfl rfl ⟨rfl, trivial⟩ ?_
    refine r_callV (fun n => 56 + 1000 * n) (p4) rfl rfl Tryz.func17 rfl rfl (by first | rfl | simp [AV.noSl, AV.noSlL, AObj.noSl, PV.isV, bs_noSl]) (by first | rfl | simp [AV.noSl, AV.noSlL, AObj.noSl, PV.isV, bs_noSl]) rfl rfl rfl (by first | exact trivial | exact ⟨rfl, trivial⟩ | exact ⟨rfl, rfl, trivial⟩) rfl rfl rfl ?_
    refine r_pure a_pickT rfl rfl ?_
    refine aP rfl rfl ?_
    refine arun_nil ?_
    refine awp_ret ?_
    refine fT (fun o => o) (.tmp _ _ _ _ rfl .nil) ?_ ?_
    · exact rfl
    · exact trivial
end Go.Proofs.YtcjnecmgificmaaGreatDoor
