/- The law StageBegins, over data. -/
import Derived.Test.YtgpleldhddpcgaaGreatDoorSSb1
import Derived.Test.YtgpleldhddpcgaaGreatDoorSSg3
namespace Go.Proofs.YtgpleldhddpcgaaGreatDoor
open Go.RowKit Go.Sort
set_option linter.unusedVariables false
set_option linter.unusedSimpArgs false
set_option maxRecDepth 100000
theorem bpO_some {s : ByteArray} {n e : Int} (h : bpO s = some (n, e)) : e ≠ 0 ∨ (n = 0 ∧ e = 0) := by
  by_cases he : e = 0
  · right
    refine ⟨?_, he⟩
    subst he
    unfold bpO at h
    cases hq : spO s with
    | some x =>
      rw [hq] at h
      obtain ⟨a, b⟩ := x
      dsimp only at h
      by_cases hb : b = 0
      · rw [if_pos hb] at h; simp at h; exact h.symm
      · rw [if_neg hb] at h; simp at h; exact absurd h.2 hb
    | none =>
      rw [hq] at h
      dsimp only at h
      exfalso
      have : ∀ (l : List LnP) (k : Nat), bdA rdE l k ≠ some (n, 0) := by
        intro l
        induction l with
        | nil => intro k hk; cases hk
        | cons a l ih =>
          intro k hk
          unfold bdA at hk
          split at hk
          · rename_i h2; simp at hk; exact h2 hk.2
          · exact ih _ hk
      exact this _ _ h
  · exact .inl he
theorem law_StageBegins (x0 : List PV) (ty0 : Ty Tryz.prog 10 24 x0) (hb0 : PV.bdL 1048576 x0) (x1 : List PV) (ty1 : Ty Tryz.prog 10 9 x1) (hb1 : PV.bdL 1048576 x1) :
    Fn Tryz.prog 5 [argAV true x0, argAV false x1] (.p (.v (.bool true))) [] := by
  obtain ⟨c, ok, rfl⟩ := CF.of_ty ty0 hb0
  obtain ⟨s, rfl, _⟩ := ty_string Tryz.underlying9 ty1
  show Fn Tryz.prog _ [.agg c.cells, .p (.v (.string s))] _ _
  have hZ := sameStageP false (.v (.slice none 0 0)) (.v (.slice none 0 0)) ⟨#[]⟩ 0 ⟨#[]⟩ 0 sameSets0_s sameConf0_s
  have hC := sameConf_s c ok
  have hN := sameStageP true (.v (.slice none 0 0)) (.sl c.ps.length 5 (c.ps.flatMap PE.pv)) c.key c.port ⟨#[]⟩ 0 sameSets0_s hC
  by_cases h0 : cfE c = 0
  rotate_left
  · have p1 := begin_bad c ok s h0
    have q1 := refBegin_bad c ok s h0
    generalize cfE c = e at *
    clear ok hC
    obtain ⟨key, port, ps⟩ := c
    dsimp only at p1 q1 hN
    change Fn Tryz.prog _ [.agg [.p (.v (.string key)), .p (.v (.int .i64 port)), .p (.sl ps.length 5 (ps.flatMap PE.pv))], _] _ _ at p1
    change Fn Tryz.prog _ [.agg [.p (.v (.string key)), .p (.v (.int .i64 port)), .p (.sl ps.length 5 (ps.flatMap PE.pv))], _] _ _ at q1
    show Fn Tryz.prog _ [.agg [.p (.v (.string key)), .p (.v (.int .i64 port)), .p (.sl ps.length 5 (ps.flatMap PE.pv))], _] _ _
    generalize ps.flatMap PE.pv = L at *
    generalize ps.length = M at *
    refine fn_intro Tryz.func5 rfl (Nat.le_of_ble_eq_true rfl) fun w0 A => ?_
    refine awp_seq ?_
    refine tx ?_
    refine r_run (a_box (X := .agg _) 2 rfl) rfl rfl ⟨rfl, trivial⟩ ?_
    refine aP rfl rfl ?_
    refine arun_nil ?_
    refine awp_seq ?_
    refine tx ?_
    refine lN Tryz.underlying24 rfl sz24 rfl rfl ⟨rfl, trivial⟩ ?_
    refine mP rfl rfl ?_
    refine r_callS (fun n => 14 + 1000 * n) (p1) rfl rfl Tryz.func12 rfl rfl (by first | rfl | simp [AV.okInL, AV.okIn, okInL_map]) rfl rfl rfl (by first | exact trivial | exact ⟨rfl, trivial⟩ | exact ⟨rfl, rfl, trivial⟩) rfl rfl rfl ?_
    refine r_pure (a_move (r := .tup _)) rfl rfl ?_
    refine r_pure (a_extract rfl) rfl rfl ?_
    refine r_pure (a_extract rfl) rfl rfl ?_
    refine r_pure (a_extract rfl) rfl rfl ?_
    refine r_run (a_alloc 5 zr35 rfl) rfl rfl ⟨rfl, trivial⟩ ?_
    refine r_run (a_storeAll (Y := .agg _) sz35 rfl (by first | exact Nat.eq_of_beq_eq_true rfl | (simp only [AV.cells, List.length_map]; first | assumption | omega)) (Nat.eq_of_beq_eq_true rfl)) rfl rfl ⟨rfl, trivial⟩ ?_
    refine aP rfl rfl ?_
    refine aP rfl rfl ?_
    refine arun_nil ?_
    refine awp_seq ?_
    refine tx ?_
    refine lN Tryz.underlying24 rfl sz24 rfl rfl ⟨rfl, trivial⟩ ?_
    refine mP rfl rfl ?_
    refine r_callS (fun n => 21 + 1000 * n) (q1) rfl rfl Tryz.func13 rfl rfl (by first | rfl | simp [AV.okInL, AV.okIn, okInL_map]) rfl rfl rfl (by first | exact trivial | exact ⟨rfl, trivial⟩ | exact ⟨rfl, rfl, trivial⟩) rfl rfl rfl ?_
    refine r_pure (a_move (r := .tup _)) rfl rfl ?_
    refine r_pure (a_extract rfl) rfl rfl ?_
    refine r_pure (a_extract rfl) rfl rfl ?_
    refine r_pure (a_extract rfl) rfl rfl ?_
    refine r_run (a_alloc 8 zr35 rfl) rfl rfl ⟨rfl, trivial⟩ ?_
    refine r_run (a_storeAll (Y := .agg _) sz35 rfl (by first | exact Nat.eq_of_beq_eq_true rfl | (simp only [AV.cells, List.length_map]; first | assumption | omega)) (Nat.eq_of_beq_eq_true rfl)) rfl rfl ⟨rfl, trivial⟩ ?_
    refine aP rfl rfl ?_
    refine aP rfl rfl ?_
    refine arun_nil ?_
    refine awp_seq ?_
    refine tx ?_
    refine lN Tryz.underlying35 rfl sz35 rfl rfl ⟨rfl, trivial⟩ ?_
    refine lN Tryz.underlying35 rfl sz35 rfl rfl ⟨rfl, trivial⟩ ?_
    refine r_callV (fun n => 27 + 1000 * n) (hZ) rfl rfl Tryz.func14 rfl rfl (by first | rfl | simp [AV.noSl, AV.noSlL, AObj.noSl, PV.isV, bs_noSl]) (by first | rfl | simp [AV.noSl, AV.noSlL, AObj.noSl, PV.isV, bs_noSl]) rfl rfl rfl (by first | exact trivial | exact ⟨rfl, trivial⟩ | exact ⟨rfl, rfl, trivial⟩) rfl rfl rfl ?_
    refine mP rfl rfl ?_
    refine mP rfl rfl ?_
    refine mP rfl rfl ?_
    refine r_pure a_eqlT rfl rfl ?_
    refine r_pure a_pickT rfl rfl ?_
    refine mP rfl rfl ?_
    refine mP rfl rfl ?_
    refine mP rfl rfl ?_
    refine r_pure a_eqlT rfl rfl ?_
    refine r_pure a_pickT rfl rfl ?_
    refine aP rfl rfl ?_
    refine arun_nil ?_
    refine awp_ret ?_
    refine fT (fun o => o) (.tmp _ _ _ _ rfl .nil) ?_ ?_
    · exact rfl
    · exact trivial
  cases hs : bpO s with
  | some x =>
    obtain ⟨n, e⟩ := x
    rcases bpO_some hs with he | ⟨rfl, rfl⟩
    · have p1 := begin_bad2 c ok s h0 n e hs he
      have q1 := refBegin_bad2 c ok s h0 n e hs he
      clear ok hC h0
      obtain ⟨key, port, ps⟩ := c
      dsimp only at p1 q1 hN
      change Fn Tryz.prog _ [.agg [.p (.v (.string key)), .p (.v (.int .i64 port)), .p (.sl ps.length 5 (ps.flatMap PE.pv))], _] _ _ at p1
      change Fn Tryz.prog _ [.agg [.p (.v (.string key)), .p (.v (.int .i64 port)), .p (.sl ps.length 5 (ps.flatMap PE.pv))], _] _ _ at q1
      show Fn Tryz.prog _ [.agg [.p (.v (.string key)), .p (.v (.int .i64 port)), .p (.sl ps.length 5 (ps.flatMap PE.pv))], _] _ _
      generalize ps.flatMap PE.pv = L at *
      generalize ps.length = M at *
      refine fn_intro Tryz.func5 rfl (Nat.le_of_ble_eq_true rfl) fun w0 A => ?_
      refine awp_seq ?_
      refine tx ?_
      refine r_run (a_box (X := .agg _) 2 rfl) rfl rfl ⟨rfl, trivial⟩ ?_
      refine aP rfl rfl ?_
      refine arun_nil ?_
      refine awp_seq ?_
      refine tx ?_
      refine lN Tryz.underlying24 rfl sz24 rfl rfl ⟨rfl, trivial⟩ ?_
      refine mP rfl rfl ?_
      refine r_callS (fun n => 14 + 1000 * n) (p1) rfl rfl Tryz.func12 rfl rfl (by first | rfl | simp [AV.okInL, AV.okIn, okInL_map]) rfl rfl rfl (by first | exact trivial | exact ⟨rfl, trivial⟩ | exact ⟨rfl, rfl, trivial⟩) rfl rfl rfl ?_
      refine r_pure (a_move (r := .tup _)) rfl rfl ?_
      refine r_pure (a_extract rfl) rfl rfl ?_
      refine r_pure (a_extract rfl) rfl rfl ?_
      refine r_pure (a_extract rfl) rfl rfl ?_
      refine r_run (a_alloc 5 zr35 rfl) rfl rfl ⟨rfl, trivial⟩ ?_
      refine r_run (a_storeAll (Y := .agg _) sz35 rfl (by first | exact Nat.eq_of_beq_eq_true rfl | (simp only [AV.cells, List.length_map]; first | assumption | omega)) (Nat.eq_of_beq_eq_true rfl)) rfl rfl ⟨rfl, trivial⟩ ?_
      refine aP rfl rfl ?_
      refine aP rfl rfl ?_
      refine arun_nil ?_
      refine awp_seq ?_
      refine tx ?_
      refine lN Tryz.underlying24 rfl sz24 rfl rfl ⟨rfl, trivial⟩ ?_
      refine mP rfl rfl ?_
      refine r_callS (fun n => 21 + 1000 * n) (q1) rfl rfl Tryz.func13 rfl rfl (by first | rfl | simp [AV.okInL, AV.okIn, okInL_map]) rfl rfl rfl (by first | exact trivial | exact ⟨rfl, trivial⟩ | exact ⟨rfl, rfl, trivial⟩) rfl rfl rfl ?_
      refine r_pure (a_move (r := .tup _)) rfl rfl ?_
      refine r_pure (a_extract rfl) rfl rfl ?_
      refine r_pure (a_extract rfl) rfl rfl ?_
      refine r_pure (a_extract rfl) rfl rfl ?_
      refine r_run (a_alloc 8 zr35 rfl) rfl rfl ⟨rfl, trivial⟩ ?_
      refine r_run (a_storeAll (Y := .agg _) sz35 rfl (by first | exact Nat.eq_of_beq_eq_true rfl | (simp only [AV.cells, List.length_map]; first | assumption | omega)) (Nat.eq_of_beq_eq_true rfl)) rfl rfl ⟨rfl, trivial⟩ ?_
      refine aP rfl rfl ?_
      refine aP rfl rfl ?_
      refine arun_nil ?_
      refine awp_seq ?_
      refine tx ?_
      refine lN Tryz.underlying35 rfl sz35 rfl rfl ⟨rfl, trivial⟩ ?_
      refine lN Tryz.underlying35 rfl sz35 rfl rfl ⟨rfl, trivial⟩ ?_
      refine r_callV (fun n => 27 + 1000 * n) (hZ) rfl rfl Tryz.func14 rfl rfl (by first | rfl | simp [AV.noSl, AV.noSlL, AObj.noSl, PV.isV, bs_noSl]) (by first | rfl | simp [AV.noSl, AV.noSlL, AObj.noSl, PV.isV, bs_noSl]) rfl rfl rfl (by first | exact trivial | exact ⟨rfl, trivial⟩ | exact ⟨rfl, rfl, trivial⟩) rfl rfl rfl ?_
      refine mP rfl rfl ?_
      refine mP rfl rfl ?_
      refine mP rfl rfl ?_
      refine r_pure a_eqlT rfl rfl ?_
      refine r_pure a_pickT rfl rfl ?_
      refine mP rfl rfl ?_
      refine mP rfl rfl ?_
      refine mP rfl rfl ?_
      refine r_pure a_eqlT rfl rfl ?_
      refine r_pure a_pickT rfl rfl ?_
      refine aP rfl rfl ?_
      refine arun_nil ?_
      refine awp_ret ?_
      refine fT (fun o => o) (.tmp _ _ _ _ rfl .nil) ?_ ?_
      · exact rfl
      · exact trivial
    · have p1 := begin_nil c ok s h0 hs
      have q1 := refBegin_nil c ok s h0 hs
      clear ok hC h0
      obtain ⟨key, port, ps⟩ := c
      dsimp only at p1 q1 hN
      change Fn Tryz.prog _ [.agg [.p (.v (.string key)), .p (.v (.int .i64 port)), .p (.sl ps.length 5 (ps.flatMap PE.pv))], _] _ _ at p1
      change Fn Tryz.prog _ [.agg [.p (.v (.string key)), .p (.v (.int .i64 port)), .p (.sl ps.length 5 (ps.flatMap PE.pv))], _] _ _ at q1
      show Fn Tryz.prog _ [.agg [.p (.v (.string key)), .p (.v (.int .i64 port)), .p (.sl ps.length 5 (ps.flatMap PE.pv))], _] _ _
      generalize ps.flatMap PE.pv = L at *
      generalize ps.length = M at *
      refine fn_intro Tryz.func5 rfl (Nat.le_of_ble_eq_true rfl) fun w0 A => ?_
      refine awp_seq ?_
      refine tx ?_
      refine r_run (a_box (X := .agg _) 2 rfl) rfl rfl ⟨rfl, trivial⟩ ?_
      refine aP rfl rfl ?_
      refine arun_nil ?_
      refine awp_seq ?_
      refine tx ?_
      refine lN Tryz.underlying24 rfl sz24 rfl rfl ⟨rfl, trivial⟩ ?_
      refine mP rfl rfl ?_
      refine r_callS (fun n => 14 + 1000 * n) (p1) rfl rfl Tryz.func12 rfl rfl (by first | rfl | simp [AV.okInL, AV.okIn, okInL_map]) rfl rfl rfl (by first | exact trivial | exact ⟨rfl, trivial⟩ | exact ⟨rfl, rfl, trivial⟩) rfl rfl rfl ?_
      refine r_pure (a_move (r := .tup _)) rfl rfl ?_
      refine r_pure (a_extract rfl) rfl rfl ?_
      refine r_pure (a_extract rfl) rfl rfl ?_
      refine r_pure (a_extract rfl) rfl rfl ?_
      refine r_run (a_alloc 5 zr35 rfl) rfl rfl ⟨rfl, trivial⟩ ?_
      refine r_run (a_storeAll (Y := .agg _) sz35 rfl (by first | exact Nat.eq_of_beq_eq_true rfl | (simp only [AV.cells, List.length_map]; first | assumption | omega)) (Nat.eq_of_beq_eq_true rfl)) rfl rfl ⟨rfl, trivial⟩ ?_
      refine aP rfl rfl ?_
      refine aP rfl rfl ?_
      refine arun_nil ?_
      refine awp_seq ?_
      refine tx ?_
      refine lN Tryz.underlying24 rfl sz24 rfl rfl ⟨rfl, trivial⟩ ?_
      refine mP rfl rfl ?_
      refine r_callS (fun n => 21 + 1000 * n) (q1) rfl rfl Tryz.func13 rfl rfl (by first | rfl | simp [AV.okInL, AV.okIn, okInL_map]) rfl rfl rfl (by first | exact trivial | exact ⟨rfl, trivial⟩ | exact ⟨rfl, rfl, trivial⟩) rfl rfl rfl ?_
      refine r_pure (a_move (r := .tup _)) rfl rfl ?_
      refine r_pure (a_extract rfl) rfl rfl ?_
      refine r_pure (a_extract rfl) rfl rfl ?_
      refine r_pure (a_extract rfl) rfl rfl ?_
      refine r_run (a_alloc 8 zr35 rfl) rfl rfl ⟨rfl, trivial⟩ ?_
      refine r_run (a_storeAll (Y := .agg _) sz35 rfl (by first | exact Nat.eq_of_beq_eq_true rfl | (simp only [AV.cells, List.length_map]; first | assumption | omega)) (Nat.eq_of_beq_eq_true rfl)) rfl rfl ⟨rfl, trivial⟩ ?_
      refine aP rfl rfl ?_
      refine aP rfl rfl ?_
      refine arun_nil ?_
      refine awp_seq ?_
      refine tx ?_
      refine lN Tryz.underlying35 rfl sz35 rfl rfl ⟨rfl, trivial⟩ ?_
      refine lN Tryz.underlying35 rfl sz35 rfl rfl ⟨rfl, trivial⟩ ?_
      refine r_callV (fun n => 27 + 1000 * n) (hN) rfl rfl Tryz.func14 rfl rfl (by first | rfl | simp [AV.noSl, AV.noSlL, AObj.noSl, PV.isV, bs_noSl]) (by first | rfl | simp [AV.noSl, AV.noSlL, AObj.noSl, PV.isV, bs_noSl]) rfl rfl rfl (by first | exact trivial | exact ⟨rfl, trivial⟩ | exact ⟨rfl, rfl, trivial⟩) rfl rfl rfl ?_
      refine mP rfl rfl ?_
      refine mP rfl rfl ?_
      refine mP rfl rfl ?_
      refine r_pure a_eqlT rfl rfl ?_
      refine r_pure a_pickT rfl rfl ?_
      refine mP rfl rfl ?_
      refine mP rfl rfl ?_
      refine mP rfl rfl ?_
      refine r_pure a_eqlT rfl rfl ?_
      refine r_pure a_pickT rfl rfl ?_
      refine aP rfl rfl ?_
      refine arun_nil ?_
      refine awp_ret ?_
      refine fT (fun o => o) (.tmp _ _ _ _ rfl .nil) ?_ ?_
      · exact rfl
      · exact trivial
  | none =>
    have p1 := begin_ok c ok s h0 hs
    have q1 := refBegin_ok c ok s h0 hs
    have hln : (((spl s 10).map lnOf).map rdS).length ≤ 1048576 := by
      rw [List.length_map, List.length_map, spl_len]
      have : cntB s 10 ≤ 59 := by
        unfold bpO at hs
        cases hq : spO s with
        | some x => rw [hq] at hs; cases hs
        | none => exact (spO_none hq).2
      omega
    have hG := sameStageP true (.sl (((spl s 10).map lnOf).map rdS).length 5 ((((spl s 10).map lnOf).map rdS).flatMap SE.pv)) (.sl c.ps.length 5 (c.ps.flatMap PE.pv)) c.key c.port ⟨#[]⟩ 0 (sameSets_s _ hln) hC
    generalize (((spl s 10).map lnOf).map rdS).flatMap SE.pv = RL at *
    generalize (((spl s 10).map lnOf).map rdS).length = rn at *
    clear ok hC h0
    obtain ⟨key, port, ps⟩ := c
    dsimp only at p1 q1 hN hG
    change Fn Tryz.prog _ [.agg [.p (.v (.string key)), .p (.v (.int .i64 port)), .p (.sl ps.length 5 (ps.flatMap PE.pv))], _] _ _ at p1
    change Fn Tryz.prog _ [.agg [.p (.v (.string key)), .p (.v (.int .i64 port)), .p (.sl ps.length 5 (ps.flatMap PE.pv))], _] _ _ at q1
    show Fn Tryz.prog _ [.agg [.p (.v (.string key)), .p (.v (.int .i64 port)), .p (.sl ps.length 5 (ps.flatMap PE.pv))], _] _ _
    generalize ps.flatMap PE.pv = L at *
    generalize ps.length = M at *
    refine fn_intro Tryz.func5 rfl (Nat.le_of_ble_eq_true rfl) fun w0 A => ?_
    refine awp_seq ?_
    refine tx ?_
    refine r_run (a_box (X := .agg _) 2 rfl) rfl rfl ⟨rfl, trivial⟩ ?_
    refine aP rfl rfl ?_
    refine arun_nil ?_
    refine awp_seq ?_
    refine tx ?_
    refine lN Tryz.underlying24 rfl sz24 rfl rfl ⟨rfl, trivial⟩ ?_
    refine mP rfl rfl ?_
    refine r_callS (fun n => 14 + 1000 * n) (p1) rfl rfl Tryz.func12 rfl rfl (by first | rfl | simp [AV.okInL, AV.okIn, okInL_map]) rfl rfl rfl (by first | exact trivial | exact ⟨rfl, trivial⟩ | exact ⟨rfl, rfl, trivial⟩) rfl rfl rfl ?_
    refine r_pure (a_move (r := .tup _)) rfl rfl ?_
    refine r_pure (a_extract rfl) rfl rfl ?_
    refine r_pure (a_extract rfl) rfl rfl ?_
    refine r_pure (a_extract rfl) rfl rfl ?_
    refine r_run (a_alloc 5 zr35 rfl) rfl rfl ⟨rfl, trivial⟩ ?_
    refine r_run (a_storeAll (Y := .agg _) sz35 rfl (by first | exact Nat.eq_of_beq_eq_true rfl | (simp only [AV.cells, List.length_map]; first | assumption | omega)) (Nat.eq_of_beq_eq_true rfl)) rfl rfl ⟨rfl, trivial⟩ ?_
    refine aP rfl rfl ?_
    refine aP rfl rfl ?_
    refine arun_nil ?_
    refine awp_seq ?_
    refine tx ?_
    refine lN Tryz.underlying24 rfl sz24 rfl rfl ⟨rfl, trivial⟩ ?_
    refine mP rfl rfl ?_
    refine r_callS (fun n => 21 + 1000 * n) (q1) rfl rfl Tryz.func13 rfl rfl (by first | rfl | simp [AV.okInL, AV.okIn, okInL_map]) rfl rfl rfl (by first | exact trivial | exact ⟨rfl, trivial⟩ | exact ⟨rfl, rfl, trivial⟩) rfl rfl rfl ?_
    refine r_pure (a_move (r := .tup _)) rfl rfl ?_
    refine r_pure (a_extract rfl) rfl rfl ?_
    refine r_pure (a_extract rfl) rfl rfl ?_
    refine r_pure (a_extract rfl) rfl rfl ?_
    refine r_run (a_alloc 8 zr35 rfl) rfl rfl ⟨rfl, trivial⟩ ?_
    refine r_run (a_storeAll (Y := .agg _) sz35 rfl (by first | exact Nat.eq_of_beq_eq_true rfl | (simp only [AV.cells, List.length_map]; first | assumption | omega)) (Nat.eq_of_beq_eq_true rfl)) rfl rfl ⟨rfl, trivial⟩ ?_
    refine aP rfl rfl ?_
    refine aP rfl rfl ?_
    refine arun_nil ?_
    refine awp_seq ?_
    refine tx ?_
    refine lN Tryz.underlying35 rfl sz35 rfl rfl ⟨rfl, trivial⟩ ?_
    refine lN Tryz.underlying35 rfl sz35 rfl rfl ⟨rfl, trivial⟩ ?_
    refine r_callV (fun n => 27 + 1000 * n) (hG) rfl rfl Tryz.func14 rfl rfl (by first | rfl | simp [AV.noSl, AV.noSlL, AObj.noSl, PV.isV, bs_noSl]) (by first | rfl | simp [AV.noSl, AV.noSlL, AObj.noSl, PV.isV, bs_noSl]) rfl rfl rfl (by first | exact trivial | exact ⟨rfl, trivial⟩ | exact ⟨rfl, rfl, trivial⟩) rfl rfl rfl ?_
    refine mP rfl rfl ?_
    refine mP rfl rfl ?_
    refine mP rfl rfl ?_
    refine r_pure a_eqlT rfl rfl ?_
    refine r_pure a_pickT rfl rfl ?_
    refine mP rfl rfl ?_
    refine mP rfl rfl ?_
    refine mP rfl rfl ?_
    refine r_pure a_eqlT rfl rfl ?_
    refine r_pure a_pickT rfl rfl ?_
    refine aP rfl rfl ?_
    refine arun_nil ?_
    refine awp_ret ?_
    refine fT (fun o => o) (.tmp _ _ _ _ rfl .nil) ?_ ?_
    · exact rfl
    · exact trivial
end Go.Proofs.YtgpleldhddpcgaaGreatDoor
