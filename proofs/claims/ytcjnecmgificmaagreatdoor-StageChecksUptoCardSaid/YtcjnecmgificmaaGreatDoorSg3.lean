/- stage.Copy, the law's sameStage, the law StageChecks, over data. -/
import Derived.Test.YtcjnecmgificmaaGreatDoorSg1
import Derived.Test.YtcjnecmgificmaaGreatDoorCf5
import Derived.Test.YtcjnecmgificmaaGreatDoorCf6
import Derived.Test.YtcjnecmgificmaaGreatDoorBp2
--%T
namespace Go.Proofs.YtcjnecmgificmaaGreatDoor
open Go.RowKit Go.Sort
set_option linter.unusedVariables false
set_option linter.unusedSimpArgs false
set_option maxRecDepth 100000

theorem sclone_s (l : List SE) (hn : l.length ≤ 1048576) : Fn Tryz.prog 43 [.p (.sl l.length 5 (l.flatMap SE.pv))] (.row 0) [(0, .row 57 5 l.length (l.flatMap SE.pv))] := by
  have hL : (l.flatMap SE.pv).length = l.length * 5 := chunk_len (f := SE.pv) (k := 5) (fun _ => rfl) l
  by_cases h0 : l.length = 0
  · obtain rfl : l = [] := List.eq_nil_of_length_eq_zero h0
    show Fn Tryz.prog _ [.p (.sl 0 5 [])] (.row 0) [(0, .row 57 5 0 [])]
    refine fn_intro Tryz.func43 rfl (Nat.le_of_ble_eq_true rfl) fun w0 A => ?_
    refine awp_seq ?_
    refine tx ?_
    refine aP rfl rfl ?_
    refine arun_nil ?_
    refine awp_seq (awp_seq ?_)
    refine tx ?_
    refine mP rfl rfl ?_
    refine r_pure (a_seqX Tryz.underlying28) rfl rfl ?_
    refine arun_nil ?_
    refine thn_n ?_
    refine awp_condX rfl ?_ ?_
    · refine awp_seq ?_
      refine tx ?_
      refine aP rfl rfl ?_
      refine arun_nil ?_
      refine thn_n (awp_re (re_nil 2 100 57 5 rfl rfl) ?_)
      refine awp_ret (thn_r ?_)
      refine fT (fun _ => 100) (.tmp _ _ _ _ rfl .nil) ?_ ?_
      · exact rfl
      · exact ⟨⟨rfl, rfl⟩, trivial⟩
    · refine awp_skip (awp_seq ?_)
      refine tx ?_
      refine r_run (a_buildSlice0 5 Tryz.underlying28 sz57) rfl rfl ⟨rfl, trivial⟩ ?_
      refine mP rfl rfl ?_
      refine r_run (a_append 7 Tryz.underlying28 eo57 (src_sl) (by simp only [maxLen]; omega) (by omega) rfl rfl) rfl rfl ⟨rfl, rfl, trivial⟩ ?_
      refine r_pure (a_assign (r := .row _)) rfl rfl ?_
      refine arun_nil ?_
      refine awp_ret ?_
      refine fT (fun _ => 7) (.tmp _ _ _ _ rfl .nil) ?_ ?_
      · exact rfl
      · exact ⟨⟨rfl, rfl⟩, trivial⟩
  · generalize l.flatMap SE.pv = L at *
    generalize l.length = n at *
    refine fn_intro Tryz.func43 rfl (Nat.le_of_ble_eq_true rfl) fun w0 A => ?_
    refine awp_seq ?_
    refine tx ?_
    refine aP rfl rfl ?_
    refine arun_nil ?_
    refine awp_seq (awp_seq ?_)
    refine tx ?_
    refine mP rfl rfl ?_
    refine r_pure (a_seqS Tryz.underlying28 (by omega)) rfl rfl ?_
    refine arun_nil ?_
    refine thn_n ?_
    refine awp_cond _ rfl (fun h => ?_) (fun h => ?_)
    · cases h
    · refine awp_skip (awp_seq ?_)
      refine tx ?_
      refine r_run (a_buildSlice0 5 Tryz.underlying28 sz57) rfl rfl ⟨rfl, trivial⟩ ?_
      refine mP rfl rfl ?_
      refine r_run (a_append 7 Tryz.underlying28 eo57 (src_sl) (by simp only [maxLen]; omega) (by omega) (show _ = n by omega) rfl) rfl rfl ⟨rfl, rfl, trivial⟩ ?_
      refine r_pure (a_assign (r := .row _)) rfl rfl ?_
      refine arun_nil ?_
      refine awp_ret ?_
      refine fT (fun _ => 7) (.tmp _ _ _ _ rfl .nil) ?_ ?_
      · exact rfl
      · exact ⟨⟨rfl, rfl⟩, trivial⟩
theorem sgCopy_s (s : SG) (ok : s.OK) : Fn Tryz.prog 21 [.agg s.cells] (.agg [.p (.v (.bool s.lv)), .row 0, .p (.v (.string s.c.key)), .p (.v (.int .i64 s.c.port)), .row 1, .p (.v (.string s.at_)), .p (.v (.int .i64 s.err))]) [(0, .row 57 5 s.rest.length (s.rest.flatMap SE.pv)), (1, .row 24 5 s.c.ps.length (s.c.ps.flatMap PE.pv))] := by
  obtain ⟨lv, rest, c, at_, err⟩ := s
  obtain ⟨okr, hl, okc, haz, hkz⟩ := ok
  dsimp only at hl okc
  have hC := cfCopy_s c okc
  have hS := sclone_s rest hl
  obtain ⟨key, port, ps⟩ := c
  dsimp only at hC
  change Fn Tryz.prog _ [.agg [.p (.v (.string key)), .p (.v (.int .i64 port)), .p (.sl ps.length 5 (ps.flatMap PE.pv))]] _ _ at hC
  show Fn Tryz.prog _ [.agg (sgC lv rest.length (rest.flatMap SE.pv) key port ps.length (ps.flatMap PE.pv) at_ err)] (.agg [.p (.v (.bool lv)), .row 0, .p (.v (.string key)), .p (.v (.int .i64 port)), .row 1, .p (.v (.string at_)), .p (.v (.int .i64 err))]) [(0, .row 57 5 rest.length (rest.flatMap SE.pv)), (1, .row 24 5 ps.length (ps.flatMap PE.pv))]
  clear okc okr haz hkz hl
  generalize ps.flatMap PE.pv = L at *
  generalize ps.length = M at *
  generalize rest.flatMap SE.pv = R at *
  generalize rest.length = N at *
  refine fn_intro Tryz.func21 rfl (Nat.le_of_ble_eq_true rfl) fun w0 A => ?_
  refine awp_seq ?_
  refine tx ?_
  refine r_run (a_box (X := .agg _) 1 rfl) rfl rfl ⟨rfl, trivial⟩ ?_
  refine r_run (a_alloc 2 zr46 rfl) rfl rfl ⟨rfl, trivial⟩ ?_
  refine arun_nil ?_
  refine awp_seq ?_
  refine awp_draw 4 (by kernel_rfl) ?_
  refine fA fi46_1 rfl rfl ?_
  refine l1 Tryz.underlying28 rfl rfl rfl ⟨rfl, trivial⟩ ?_
  refine r_callS (fun _ => 105) (hS) rfl rfl Tryz.func43 rfl rfl (by first | rfl | simp [AV.okInL, AV.okIn, okInL_map]) rfl rfl rfl (by first | exact trivial | exact ⟨rfl, trivial⟩ | exact ⟨rfl, rfl, trivial⟩) rfl rfl rfl ?_
  refine fA fi46_2 rfl rfl ?_
  refine lN Tryz.underlying27 rfl sz27 rfl rfl ⟨rfl, trivial⟩ ?_
  refine r_callS (fun _ => 108) (hC) rfl rfl Tryz.func14 rfl rfl (by first | rfl | simp [AV.okInL, AV.okIn, okInL_map]) rfl rfl rfl (by first | exact trivial | exact ⟨rfl, trivial⟩ | exact ⟨rfl, rfl, trivial⟩) rfl rfl rfl ?_
  refine fA fi46_1 rfl rfl ?_
  refine r_run (a_store (Y := .row _) sz28 rfl (by first | exact Nat.eq_of_beq_eq_true rfl | (simp only [AV.cells, List.length_map]; first | assumption | omega)) (by first | exact Nat.le_of_ble_eq_true rfl | omega | (simp only [AV.cells, List.length_map]; omega)) (by first | (simp only [setR, AV.cells, List.take_succ_cons, List.take_zero, List.drop_succ_cons, List.drop_zero, List.drop_nil, List.take_nil, List.nil_append, List.cons_append, List.append_nil, List.length_cons, List.length_nil, Nat.reduceAdd, Nat.zero_add, Nat.add_zero]; rfl) | rfl)) rfl rfl ⟨rfl, trivial⟩ ?_
  refine fA fi46_2 rfl rfl ?_
  refine r_run (a_store (Y := .agg _) sz27 rfl (by first | exact Nat.eq_of_beq_eq_true rfl | (simp only [AV.cells, List.length_map]; first | assumption | omega)) (by first | exact Nat.le_of_ble_eq_true rfl | omega | (simp only [AV.cells, List.length_map]; omega)) (by first | (simp only [setR, AV.cells, List.take_succ_cons, List.take_zero, List.drop_succ_cons, List.drop_zero, List.drop_nil, List.take_nil, List.nil_append, List.cons_append, List.append_nil, List.length_cons, List.length_nil, Nat.reduceAdd, Nat.zero_add, Nat.add_zero]; rfl) | rfl)) rfl rfl ⟨rfl, trivial⟩ ?_
  refine arun_nil ⟨by kernel_rfl, ?_⟩
  refine awp_seq ?_
  refine tx ?_
  refine lN Tryz.underlying46 rfl sz46 rfl rfl ⟨rfl, trivial⟩ ?_
  refine r_run (a_storeAll (Y := .agg _) sz46 rfl (by first | exact Nat.eq_of_beq_eq_true rfl | (simp only [AV.cells, List.length_map]; first | assumption | omega)) (Nat.eq_of_beq_eq_true rfl)) rfl rfl ⟨rfl, trivial⟩ ?_
  refine arun_nil ?_
  refine awp_ret ?_
  refine fT (fun o => bif Nat.beq o 0 then 105 else 108) (.cellN _ _ _ _ _ _ _ _ _ rfl rfl Tryz.underlying46 rfl sz46 (by first | assumption | kernel_rfl) .nil) ?_ ?_
  · exact rfl
  · exact ⟨⟨rfl, rfl⟩, ⟨rfl, rfl⟩, trivial⟩
theorem sameStage_s (s : SG) (ok : s.OK) : Fn Tryz.prog 23 [.agg s.cells, .agg s.cells] (.p (.v (.bool true))) [] := by
  obtain ⟨lv, rest, c, at_, err⟩ := s
  obtain ⟨okr, hl, okc, haz, hkz⟩ := ok
  dsimp only at hl okc
  have hC := sameConf_s c okc
  have hS := sameSets_s rest hl
  obtain ⟨key, port, ps⟩ := c
  change Fn Tryz.prog _ [.agg [.p (.v (.string key)), .p (.v (.int .i64 port)), .p (.sl ps.length 5 (ps.flatMap PE.pv))], .agg [.p (.v (.string key)), .p (.v (.int .i64 port)), .p (.sl ps.length 5 (ps.flatMap PE.pv))]] _ _ at hC
  show Fn Tryz.prog _ [.agg (sgC lv rest.length (rest.flatMap SE.pv) key port ps.length (ps.flatMap PE.pv) at_ err), .agg (sgC lv rest.length (rest.flatMap SE.pv) key port ps.length (ps.flatMap PE.pv) at_ err)] _ _
  clear okc okr haz hkz hl
  generalize ps.flatMap PE.pv = L at *
  generalize ps.length = M at *
  generalize rest.flatMap SE.pv = R at *
  generalize rest.length = N at *
  refine fn_intro Tryz.func23 rfl (Nat.le_of_ble_eq_true rfl) fun w0 A => ?_
  refine awp_seq ?_
  refine tx ?_
  refine r_run (a_box (X := .agg _) 2 rfl) rfl rfl ⟨rfl, trivial⟩ ?_
  refine r_run (a_box (X := .agg _) 3 rfl) rfl rfl ⟨rfl, trivial⟩ ?_
  refine aP rfl rfl ?_
  refine arun_nil ?_
  refine awp_seq ?_
  refine tx ?_
  refine fA fi46_0 rfl rfl ?_
  refine l1 Tryz.underlying4 rfl rfl rfl ⟨rfl, trivial⟩ ?_
  refine fA fi46_0 rfl rfl ?_
  refine l1 Tryz.underlying4 rfl rfl rfl ⟨rfl, trivial⟩ ?_
  refine r_pure (a_beqlT Tryz.underlying4) rfl rfl ?_
  refine mP rfl rfl ?_
  refine fA fi46_1 rfl rfl ?_
  refine l1 Tryz.underlying28 rfl rfl rfl ⟨rfl, trivial⟩ ?_
  refine fA fi46_1 rfl rfl ?_
  refine l1 Tryz.underlying28 rfl rfl rfl ⟨rfl, trivial⟩ ?_
  refine r_callS (fun n => 15 + 1000 * n) (hS) rfl rfl Tryz.func11 rfl rfl (by first | rfl | simp [AV.okInL, AV.okIn, okInL_map]) rfl rfl rfl (by first | exact trivial | exact ⟨rfl, trivial⟩ | exact ⟨rfl, rfl, trivial⟩) rfl rfl rfl ?_
  refine r_pure a_pickT rfl rfl ?_
  refine mP rfl rfl ?_
  refine fA fi46_2 rfl rfl ?_
  refine lN Tryz.underlying27 rfl sz27 rfl rfl ⟨rfl, trivial⟩ ?_
  refine fA fi46_2 rfl rfl ?_
  refine lN Tryz.underlying27 rfl sz27 rfl rfl ⟨rfl, trivial⟩ ?_
  refine r_callS (fun n => 22 + 1000 * n) (hC) rfl rfl Tryz.func17 rfl rfl (by first | rfl | simp [AV.okInL, AV.okIn, okInL_map]) rfl rfl rfl (by first | exact trivial | exact ⟨rfl, trivial⟩ | exact ⟨rfl, rfl, trivial⟩) rfl rfl rfl ?_
  refine r_pure a_pickT rfl rfl ?_
  refine mP rfl rfl ?_
  refine fA fi46_3 rfl rfl ?_
  refine l1 Tryz.underlying9 rfl rfl rfl ⟨rfl, trivial⟩ ?_
  refine fA fi46_3 rfl rfl ?_
  refine l1 Tryz.underlying9 rfl rfl rfl ⟨rfl, trivial⟩ ?_
  refine r_pure a_seqlT rfl rfl ?_
  refine r_pure a_pickT rfl rfl ?_
  refine mP rfl rfl ?_
  refine fA fi46_4 rfl rfl ?_
  refine l1 Tryz.underlying29 rfl rfl rfl ⟨rfl, trivial⟩ ?_
  refine fA fi46_4 rfl rfl ?_
  refine l1 Tryz.underlying29 rfl rfl rfl ⟨rfl, trivial⟩ ?_
  refine r_pure a_eqlT rfl rfl ?_
  refine r_pure a_pickT rfl rfl ?_
  refine aP rfl rfl ?_
  refine arun_nil ?_
  refine awp_ret ?_
  refine fT (fun o => o) (.tmp _ _ _ _ rfl .nil) ?_ ?_
  · exact rfl
  · exact trivial
end Go.Proofs.YtcjnecmgificmaaGreatDoor
