/- The reference's ConfCopy; stage.Begin, the reference's StageBegun, over data. -/
import Derived.Test.YtgpleldhddpcgaaGreatDoorSCf4
import Derived.Test.YtgpleldhddpcgaaGreatDoorSCf5
import Derived.Test.YtgpleldhddpcgaaGreatDoorSBp1
import Derived.Test.YtgpleldhddpcgaaGreatDoorSNb
namespace Go.Proofs.YtgpleldhddpcgaaGreatDoor
open Go.RowKit Go.Sort
set_option linter.unusedVariables false
set_option linter.unusedSimpArgs false
set_option maxRecDepth 100000
set_option maxHeartbeats 4000000 in
theorem refCopy_s (c : CF) (ok : c.OK) : Fn Tryz.prog 32 [.agg c.cells] (.agg [.p (.v (.string c.key)), .p (.v (.int .i64 c.port)), .row 0]) [(0, .row 49 5 c.ps.length (c.ps.flatMap PE.pv))] := by
  obtain ⟨key, port, l⟩ := c
  obtain ⟨hn, ok⟩ := ok
  dsimp only at hn ok
  show Fn Tryz.prog _ [.agg (cfC key port l.length (l.flatMap PE.pv))] (.agg [.p (.v (.string key)), .p (.v (.int .i64 port)), .row 0]) [(0, .row 49 5 l.length (l.flatMap PE.pv))]
  refine fn_intro Tryz.func32 rfl (Nat.le_of_ble_eq_true rfl) fun w0 A => ?_
  refine awp_seq ?_
  refine tx ?_
  refine r_run (a_box (X := .agg _) 1 rfl) rfl rfl ⟨rfl, trivial⟩ ?_
  refine r_run (a_alloc 2 zr24 rfl) rfl rfl ⟨rfl, trivial⟩ ?_
  refine arun_nil ?_
  refine awp_seq ?_
  refine tx ?_
  refine fA fi24_0 rfl rfl ?_
  refine l1 Tryz.underlying9 rfl rfl rfl ⟨rfl, trivial⟩ ?_
  refine fA fi24_1 rfl rfl ?_
  refine l1 Tryz.underlying3 rfl rfl rfl ⟨rfl, trivial⟩ ?_
  refine r_pure (b_build pl24 zr24 rfl rfl) rfl rfl ?_
  refine r_run (a_alloc 3 zr24 rfl) rfl rfl ⟨rfl, trivial⟩ ?_
  refine r_run (a_storeAll (Y := .agg [.p (.v (.string key)), .p (.v (.int .i64 port)), .p (.v (.slice none 0 0))]) sz24 rfl rfl (Nat.eq_of_beq_eq_true rfl)) rfl rfl ⟨rfl, trivial⟩ ?_
  refine arun_nil ?_
  refine thn_n (awp_re (re_nilB 3 (cs := [.p (.v (.string key)), .p (.v (.int .i64 port)), .p (.v (.slice none 0 0))]) 2 100 49 5 rfl rfl rfl) ?_)
  refine awp_seq (awp_seq ?_)
  refine tx ?_
  refine fA fi24_2 rfl rfl ?_
  refine l1 Tryz.underlying22 rfl rfl rfl ⟨rfl, trivial⟩ ?_
  refine r_pure (a_lenS Tryz.underlying22) rfl rfl ?_
  refine mP rfl rfl ?_
  refine arun_nil ?_
  refine awp_block ?_
  refine awp_loopR (fun m st => ∃ i : Nat, m + i = l.length ∧ st = St.of [(2, .ref 2 0), (3, .ref 3 0), (12, .p (.sl l.length 5 (l.flatMap PE.pv))), (13, .p (.v (.int .i64 l.length))), (14, .p (.v (.int .i64 i)))] [(2, .box 24 [.p (.v (.string ⟨#[]⟩)), .p (.v (.int .i64 0)), .p (.v (.slice none 0 0))]), (3, .box 24 [.p (.v (.string key)), .p (.v (.int .i64 port)), .row 100]), (100, .row 49 5 i ((l.take i).flatMap PE.pv))]) l.length ?_ ?_
  · refine ⟨_, re_of id _ _ ?_ ?_ rfl, 0, by omega, rfl⟩
    · (repeat (first | exact trivial | (refine ⟨⟨(by first | rfl | (simp; done) | (simp; omega)), rfl⟩, ?_⟩)))
    · exact ⟨⟨rfl, rfl⟩, ⟨rfl, rfl⟩, ⟨rfl, rfl⟩, trivial⟩
  rintro m st ⟨i, hi, rfl⟩
  refine awp_seq ?_
  refine tx ?_
  refine r_pure a_lss rfl rfl ?_
  refine arun_nil ?_
  refine awp_seq ?_
  refine awp_cond _ rfl (fun h => ?_) (fun h => ?_)
  · have hlt : i < l.length := by simp at h; omega
    clear h
    obtain ⟨p, hp⟩ : ∃ p, l[i]? = some p := ⟨l[i], List.getElem?_eq_getElem hlt⟩
    have hch := chunk_at (f := PE.pv) (k := 5) (fun _ => rfl) hp
    have hle := chunk_le (f := PE.pv) (k := 5) (fun _ => rfl) hlt
    have hpl := (ok p (List.mem_of_getElem? hp)).2
    have hpush := pe_push l i p hp
    have hil : ((l.take i).flatMap PE.pv).length = i * 5 := by rw [chunk_len (k := 5) (fun _ => rfl), List.length_take, Nat.min_eq_left (by omega)]
    generalize hL : l.flatMap PE.pv = L at *
    generalize (l.take i).flatMap PE.pv = T at *
    obtain ⟨pk, sh, ep, al, nn⟩ := p
    dsimp only at hpl
    have hnl : (nn.flatMap ntC).length = nn.length * 2 := chunk_len (f := ntC) (k := 2) (fun _ => rfl) nn
    change T ++ [.v (.string pk), .v (.string sh), .v (.string ep), .v (.int .i64 al), .sl nn.length 2 (nn.flatMap ntC)] = _ at hpush
    change _ = ([.v (.string pk), .v (.string sh), .v (.string ep), .v (.int .i64 al), .sl nn.length 2 (nn.flatMap ntC)] : List PV) at hch
    generalize nn.flatMap ntC = NL at *
    generalize nn.length = nl at *
    refine awp_skip (awp_seq (awp_block (awp_seq ?_)))
    refine tx ?_
    refine r_pure (a_indexAddrS Tryz.underlying22 sz49 (by omega) (by omega) rfl) rfl rfl ?_
    refine r_pure (a_loadNp Tryz.underlying49 rfl sz49 (by first | omega | (simp; done) | (simp; omega)) (hch)) rfl rfl ?_
    refine r_run (a_alloc 5 zr49 rfl) rfl rfl ⟨rfl, trivial⟩ ?_
    refine r_run (a_storeAll (Y := .agg [.p (.v (.string pk)), .p (.v (.string sh)), .p (.v (.string ep)), .p (.v (.int .i64 al)), .p (.sl nl 2 NL)]) sz49 rfl rfl (Nat.eq_of_beq_eq_true rfl)) rfl rfl ⟨rfl, trivial⟩ ?_
    refine arun_nil ?_
    refine awp_seq ?_
    refine tx ?_
    refine fA fi49_4 rfl rfl ?_
    refine l1 Tryz.underlying47 rfl rfl rfl ⟨rfl, trivial⟩ ?_
    refine r_run (a_appendNil 20 Tryz.underlying47 eo52 (src_sl) (by simp only [maxLen]; omega) (by omega)) rfl rfl ⟨rfl, trivial⟩ ?_
    refine fA fi49_4 rfl rfl ?_
    refine r_run (a_store (Y := .row _) sz47 rfl (by first | exact Nat.eq_of_beq_eq_true rfl | (simp only [AV.cells, List.length_map]; first | assumption | omega)) (by first | exact Nat.le_of_ble_eq_true rfl | omega | (simp only [AV.cells, List.length_map]; omega)) (by first | (simp only [setR, AV.cells, List.take_succ_cons, List.take_zero, List.drop_succ_cons, List.drop_zero, List.drop_nil, List.take_nil, List.nil_append, List.cons_append, List.append_nil, List.length_cons, List.length_nil, Nat.reduceAdd, Nat.zero_add, Nat.add_zero]; rfl) | rfl)) rfl rfl ⟨rfl, trivial⟩ ?_
    refine arun_nil ?_
    refine thn_reO (reo_fzR (cs := NL) 20 rfl) ?_
    skip
    refine tx ?_
    refine fA fi24_2 rfl rfl ?_
    refine l1 Tryz.underlying22 rfl rfl rfl ⟨rfl, trivial⟩ ?_
    refine lN Tryz.underlying49 rfl sz49 rfl rfl ⟨rfl, trivial⟩ ?_
    refine r_run (a_buildSlice 25 Tryz.underlying22 sz49 zc49 (Nat.le_of_ble_eq_true rfl) (Nat.le_of_ble_eq_true rfl) rfl rfl rfl rfl (Nat.le_of_ble_eq_true rfl)) rfl rfl ⟨rfl, trivial⟩ ?_
    refine r_run (a_append 26 Tryz.underlying22 eo49 (src_row) (by simp only [maxLen]; omega) (by omega) rfl rfl) rfl rfl ⟨rfl, rfl, rfl, trivial⟩ ?_
    refine fA fi24_2 rfl rfl ?_
    refine r_run (a_store (Y := .row _) sz22 rfl (by first | exact Nat.eq_of_beq_eq_true rfl | (simp only [AV.cells, List.length_map]; first | assumption | omega)) (by first | exact Nat.le_of_ble_eq_true rfl | omega | (simp only [AV.cells, List.length_map]; omega)) (by first | (simp only [setR, AV.cells, List.take_succ_cons, List.take_zero, List.drop_succ_cons, List.drop_zero, List.drop_nil, List.take_nil, List.nil_append, List.cons_append, List.append_nil, List.length_cons, List.length_nil, Nat.reduceAdd, Nat.zero_add, Nat.add_zero]; rfl) | rfl)) rfl rfl ⟨rfl, trivial⟩ ?_
    refine arun_nil ?_
    refine inb_n (thn_n ?_)
    refine tx ?_
    refine r_pure (a_add (by first | exact IntWalk.i64_in _ (by omega) | rfl)) rfl rfl ?_
    refine mP rfl rfl ?_
    refine arun_nil ?_
    refine thn_n ?_
    refine ⟨m - 1, by omega, _, re_of (fun o => bif Nat.beq o 100 then 26 else o) _ _ ?_ ?_ rfl, i + 1, by omega, rfl⟩
    · (repeat (first | exact trivial | (refine ⟨⟨(by first | rfl | (simp; done) | (simp; omega)), rfl⟩, ?_⟩)))
    · exact ⟨⟨rfl, rfl⟩, ⟨rfl, rfl⟩, ⟨by rw [← hpush]; rfl, rfl⟩, trivial⟩
  have hge : i = l.length := by simp at h; omega
  clear h
  subst hge
  rw [List.take_length]
  refine awp_exit (awp_seq ?_)
  refine tx ?_
  refine lN Tryz.underlying24 rfl sz24 rfl rfl ⟨rfl, trivial⟩ ?_
  refine r_run (a_storeAll (Y := .agg _) sz24 rfl (by first | exact Nat.eq_of_beq_eq_true rfl | (simp only [AV.cells, List.length_map]; first | assumption | omega)) (Nat.eq_of_beq_eq_true rfl)) rfl rfl ⟨rfl, trivial⟩ ?_
  refine arun_nil ?_
  refine awp_ret ?_
  refine fT (fun _ => 100) (.cellN _ _ _ _ _ _ _ _ _ rfl rfl Tryz.underlying24 rfl sz24 (by first | assumption | kernel_rfl) .nil) ?_ ?_
  · exact rfl
  · exact ⟨⟨rfl, rfl⟩, trivial⟩
theorem begin_bad (c : CF) (ok : c.OK) (s : ByteArray) (h0 : cfE c ≠ 0) : Fn Tryz.prog 12 [.agg c.cells, .p (.v (.string s))] (.tup [.agg [.p (.v (.bool false)), .p (.v (.slice none 0 0)), .p (.v (.string ⟨#[]⟩)), .p (.v (.int .i64 0)), .p (.v (.slice none 0 0)), .p (.v (.string ⟨#[]⟩)), .p (.v (.int .i64 0))], .p (.v (.int .i64 0)), .p (.v (.int .i64 (cfE c)))]) [] := by
  have hC := cfCheck_s c ok
  generalize cfE c = e at *
  obtain ⟨key, port, ps⟩ := c
  change Fn Tryz.prog _ [.agg [.p (.v (.string key)), .p (.v (.int .i64 port)), .p (.sl ps.length 5 (ps.flatMap PE.pv))]] _ _ at hC
  show Fn Tryz.prog _ [.agg [.p (.v (.string key)), .p (.v (.int .i64 port)), .p (.sl ps.length 5 (ps.flatMap PE.pv))], _] _ _
  generalize ps.flatMap PE.pv = L at *
  generalize ps.length = M at *
  refine fn_intro Tryz.func12 rfl (Nat.le_of_ble_eq_true rfl) fun w0 A => ?_
  refine awp_seq ?_
  refine tx ?_
  refine r_run (a_box (X := .agg _) 2 rfl) rfl rfl ⟨rfl, trivial⟩ ?_
  refine r_run (a_alloc 4 zr35 rfl) rfl rfl ⟨rfl, trivial⟩ ?_
  refine aP rfl rfl ?_
  refine aP rfl rfl ?_
  refine arun_nil ?_
  refine awp_seq (awp_seq ?_)
  refine tx ?_
  refine lN Tryz.underlying24 rfl sz24 rfl rfl ⟨rfl, trivial⟩ ?_
  refine r_callS (fun n => 12 + 1000 * n) (hC) rfl rfl Tryz.func20 rfl rfl (by first | rfl | simp [AV.okInL, AV.okIn, okInL_map]) rfl rfl rfl (by first | exact trivial | exact ⟨rfl, trivial⟩ | exact ⟨rfl, rfl, trivial⟩) rfl rfl rfl ?_
  refine aP rfl rfl ?_
  refine arun_nil ?_
  refine awp_seq ?_
  refine tx ?_
  refine mP rfl rfl ?_
  refine r_pure a_neq rfl rfl ?_
  refine arun_nil ?_
  refine thn_n ?_
  refine awp_cond _ rfl (fun h => ?_) (fun h => ?_)
  · refine awp_seq ?_
    refine tx ?_
    refine r_pure (b_build pl35 zr35 rfl rfl) rfl rfl ?_
    refine mP rfl rfl ?_
    refine r_run (a_storeAll (Y := .agg [.p (.v (.bool false)), .p (.v (.slice none 0 0)), .p (.v (.string ⟨#[]⟩)), .p (.v (.int .i64 0)), .p (.v (.slice none 0 0)), .p (.v (.string ⟨#[]⟩)), .p (.v (.int .i64 0))]) sz35 rfl rfl (Nat.eq_of_beq_eq_true rfl)) rfl rfl ⟨rfl, trivial⟩ ?_
    refine aP rfl rfl ?_
    refine aP rfl rfl ?_
    refine arun_nil ?_
    refine awp_ret (thn_r ?_)
    refine fT (fun o => o) (.cellN _ _ _ _ _ _ _ _ _ rfl rfl Tryz.underlying35 rfl sz35 (by first | assumption | kernel_rfl) (.tmp _ _ _ _ rfl (.tmp _ _ _ _ rfl .nil))) ?_ ?_
    · exact rfl
    · exact trivial
  · exact absurd (by simpa using h) h0
theorem begin_bad2 (c : CF) (ok : c.OK) (s : ByteArray) (h0 : cfE c = 0) (n e : Int) (hs : bpO s = some (n, e)) (he : e ≠ 0) : Fn Tryz.prog 12 [.agg c.cells, .p (.v (.string s))] (.tup [.agg [.p (.v (.bool false)), .p (.v (.slice none 0 0)), .p (.v (.string ⟨#[]⟩)), .p (.v (.int .i64 0)), .p (.v (.slice none 0 0)), .p (.v (.string ⟨#[]⟩)), .p (.v (.int .i64 0))], .p (.v (.int .i64 n)), .p (.v (.int .i64 e))]) [] := by
  have hC := cfCheck_s c ok
  have hP := bparse_s s
  rw [h0] at hC
  rw [hs] at hP
  simp only [spR, bpN] at hP
  clear ok h0 hs
  obtain ⟨key, port, ps⟩ := c
  change Fn Tryz.prog _ [.agg [.p (.v (.string key)), .p (.v (.int .i64 port)), .p (.sl ps.length 5 (ps.flatMap PE.pv))]] _ _ at hC
  show Fn Tryz.prog _ [.agg [.p (.v (.string key)), .p (.v (.int .i64 port)), .p (.sl ps.length 5 (ps.flatMap PE.pv))], _] _ _
  generalize ps.flatMap PE.pv = L at *
  generalize ps.length = M at *
  refine fn_intro Tryz.func12 rfl (Nat.le_of_ble_eq_true rfl) fun w0 A => ?_
  refine awp_seq ?_
  refine tx ?_
  refine r_run (a_box (X := .agg _) 2 rfl) rfl rfl ⟨rfl, trivial⟩ ?_
  refine r_run (a_alloc 4 zr35 rfl) rfl rfl ⟨rfl, trivial⟩ ?_
  refine aP rfl rfl ?_
  refine aP rfl rfl ?_
  refine arun_nil ?_
  refine awp_seq (awp_seq ?_)
  refine tx ?_
  refine lN Tryz.underlying24 rfl sz24 rfl rfl ⟨rfl, trivial⟩ ?_
  refine r_callS (fun n => 12 + 1000 * n) (hC) rfl rfl Tryz.func20 rfl rfl (by first | rfl | simp [AV.okInL, AV.okIn, okInL_map]) rfl rfl rfl (by first | exact trivial | exact ⟨rfl, trivial⟩ | exact ⟨rfl, rfl, trivial⟩) rfl rfl rfl ?_
  refine aP rfl rfl ?_
  refine arun_nil ?_
  refine awp_seq ?_
  refine tx ?_
  refine mP rfl rfl ?_
  refine r_pure a_neqT rfl rfl ?_
  refine arun_nil ?_
  refine thn_n ?_
  refine awp_cond _ rfl (fun h => ?_) (fun h => ?_)
  · cases h
  refine awp_skip (awp_seq ?_)
  refine tx ?_
  refine mP rfl rfl ?_
  refine r_callS (fun n => 19 + 1000 * n) (hP) rfl rfl Tryz.func29 rfl rfl (by first | rfl | simp [AV.okInL, AV.okIn, okInL_map]) rfl rfl rfl (by first | exact trivial | exact ⟨rfl, trivial⟩ | exact ⟨rfl, rfl, trivial⟩) rfl rfl rfl ?_
  refine r_pure (a_move (r := .tup _)) rfl rfl ?_
  refine r_pure (a_extract rfl) rfl rfl ?_
  refine r_pure (a_extract rfl) rfl rfl ?_
  refine r_pure (a_extract rfl) rfl rfl ?_
  refine aP rfl rfl ?_
  refine aP rfl rfl ?_
  refine aP rfl rfl ?_
  refine arun_nil ?_
  refine awp_seq (awp_seq ?_)
  refine tx ?_
  refine mP rfl rfl ?_
  refine r_pure a_neq rfl rfl ?_
  refine arun_nil ?_
  refine thn_n ?_
  refine awp_cond _ rfl (fun h => ?_) (fun h => ?_)
  · refine awp_seq ?_
    refine tx ?_
    refine r_pure (b_build pl35 zr35 rfl rfl) rfl rfl ?_
    refine mP rfl rfl ?_
    refine mP rfl rfl ?_
    refine r_run (a_storeAll (Y := .agg [.p (.v (.bool false)), .p (.v (.slice none 0 0)), .p (.v (.string ⟨#[]⟩)), .p (.v (.int .i64 0)), .p (.v (.slice none 0 0)), .p (.v (.string ⟨#[]⟩)), .p (.v (.int .i64 0))]) sz35 rfl rfl (Nat.eq_of_beq_eq_true rfl)) rfl rfl ⟨rfl, trivial⟩ ?_
    refine aP rfl rfl ?_
    refine aP rfl rfl ?_
    refine arun_nil ?_
    refine awp_ret (thn_r ?_)
    refine fT (fun o => o) (.cellN _ _ _ _ _ _ _ _ _ rfl rfl Tryz.underlying35 rfl sz35 (by first | assumption | kernel_rfl) (.tmp _ _ _ _ rfl (.tmp _ _ _ _ rfl .nil))) ?_ ?_
    · exact rfl
    · exact trivial
  · exact absurd (by simpa using h) he
theorem begin_nil (c : CF) (ok : c.OK) (s : ByteArray) (h0 : cfE c = 0) (hs : bpO s = some (0, 0)) : Fn Tryz.prog 12 [.agg c.cells, .p (.v (.string s))] (.tup [.agg [.p (.v (.bool true)), .p (.v (.slice none 0 0)), .p (.v (.string c.key)), .p (.v (.int .i64 c.port)), .row 0, .p (.v (.string ⟨#[]⟩)), .p (.v (.int .i64 0))], .p (.v (.int .i64 0)), .p (.v (.int .i64 0))]) [(0, .row 49 5 c.ps.length (c.ps.flatMap PE.pv))] := by
  have hC := cfCheck_s c ok
  have hP := bparse_s s
  have hK := cfCopy_s c ok
  rw [h0] at hC
  rw [hs] at hP
  simp only [spR, bpN] at hP
  generalize ((spl s 10).map lnOf).map rdS = rl at *
  clear ok h0 hs
  obtain ⟨key, port, ps⟩ := c
  change Fn Tryz.prog _ [.agg [.p (.v (.string key)), .p (.v (.int .i64 port)), .p (.sl ps.length 5 (ps.flatMap PE.pv))]] _ _ at hC
  change Fn Tryz.prog _ [.agg [.p (.v (.string key)), .p (.v (.int .i64 port)), .p (.sl ps.length 5 (ps.flatMap PE.pv))]] (.agg [.p (.v (.string key)), .p (.v (.int .i64 port)), .row 0]) [(0, .row 49 5 ps.length (ps.flatMap PE.pv))] at hK
  show Fn Tryz.prog _ [.agg [.p (.v (.string key)), .p (.v (.int .i64 port)), .p (.sl ps.length 5 (ps.flatMap PE.pv))], _] (.tup [.agg [.p (.v (.bool true)), .p (.v (.slice none 0 0)), .p (.v (.string key)), .p (.v (.int .i64 port)), .row 0, .p (.v (.string ⟨#[]⟩)), .p (.v (.int .i64 0))], .p (.v (.int .i64 0)), .p (.v (.int .i64 0))]) [(0, .row 49 5 ps.length (ps.flatMap PE.pv))]
  generalize ps.flatMap PE.pv = L at *
  generalize ps.length = M at *
  generalize rl.flatMap SE.pv = RL at *
  generalize rl.length = rn at *
  refine fn_intro Tryz.func12 rfl (Nat.le_of_ble_eq_true rfl) fun w0 A => ?_
  refine awp_seq ?_
  refine tx ?_
  refine r_run (a_box (X := .agg _) 2 rfl) rfl rfl ⟨rfl, trivial⟩ ?_
  refine r_run (a_alloc 4 zr35 rfl) rfl rfl ⟨rfl, trivial⟩ ?_
  refine aP rfl rfl ?_
  refine aP rfl rfl ?_
  refine arun_nil ?_
  refine awp_seq (awp_seq ?_)
  refine tx ?_
  refine lN Tryz.underlying24 rfl sz24 rfl rfl ⟨rfl, trivial⟩ ?_
  refine r_callS (fun n => 12 + 1000 * n) (hC) rfl rfl Tryz.func20 rfl rfl (by first | rfl | simp [AV.okInL, AV.okIn, okInL_map]) rfl rfl rfl (by first | exact trivial | exact ⟨rfl, trivial⟩ | exact ⟨rfl, rfl, trivial⟩) rfl rfl rfl ?_
  refine aP rfl rfl ?_
  refine arun_nil ?_
  refine awp_seq ?_
  refine tx ?_
  refine mP rfl rfl ?_
  refine r_pure a_neqT rfl rfl ?_
  refine arun_nil ?_
  refine thn_n ?_
  refine awp_cond _ rfl (fun h => ?_) (fun h => ?_)
  · cases h
  refine awp_skip (awp_seq ?_)
  refine tx ?_
  refine mP rfl rfl ?_
  refine r_callS (fun n => 19 + 1000 * n) (hP) rfl rfl Tryz.func29 rfl rfl (by first | rfl | simp [AV.okInL, AV.okIn, okInL_map]) rfl rfl rfl (by first | exact trivial | exact ⟨rfl, trivial⟩ | exact ⟨rfl, rfl, trivial⟩) rfl rfl rfl ?_
  refine r_pure (a_move (r := .tup _)) rfl rfl ?_
  refine r_pure (a_extract rfl) rfl rfl ?_
  refine r_pure (a_extract rfl) rfl rfl ?_
  refine r_pure (a_extract rfl) rfl rfl ?_
  refine aP rfl rfl ?_
  refine aP rfl rfl ?_
  refine aP rfl rfl ?_
  refine arun_nil ?_
  refine awp_seq (awp_seq ?_)
  refine tx ?_
  refine mP rfl rfl ?_
  refine r_pure a_neqT rfl rfl ?_
  refine arun_nil ?_
  refine thn_n ?_
  refine awp_cond _ rfl (fun h => ?_) (fun h => ?_)
  · cases h
  refine awp_skip (awp_seq ?_)
  refine tx ?_
  refine mP rfl rfl ?_
  refine lN Tryz.underlying24 rfl sz24 rfl rfl ⟨rfl, trivial⟩ ?_
  refine r_callS (fun n => 30 + 1000 * n) (hK) rfl rfl Tryz.func30 rfl rfl (by first | rfl | simp [AV.okInL, AV.okIn, okInL_map]) rfl rfl rfl (by first | exact trivial | exact ⟨rfl, trivial⟩ | exact ⟨rfl, rfl, trivial⟩) rfl rfl rfl ?_
  refine r_pure (b_build pl35 zr35 rfl rfl) rfl rfl ?_
  refine r_run (a_storeAll (Y := .agg [.p (.v (.bool true)), .p (.v (.slice none 0 0)), .p (.v (.string key)), .p (.v (.int .i64 port)), .row 30, .p (.v (.string ⟨#[]⟩)), .p (.v (.int .i64 0))]) sz35 rfl rfl (Nat.eq_of_beq_eq_true rfl)) rfl rfl ⟨rfl, trivial⟩ ?_
  refine aP rfl rfl ?_
  refine aP rfl rfl ?_
  refine arun_nil ?_
  refine awp_ret ?_
  refine fT (fun _ => 30) (.cellN _ _ _ _ _ _ _ _ _ rfl rfl Tryz.underlying35 rfl sz35 (by first | assumption | kernel_rfl) (.tmp _ _ _ _ rfl (.tmp _ _ _ _ rfl .nil))) ?_ ?_
  · exact rfl
  · exact ⟨⟨rfl, rfl⟩, trivial⟩
theorem begin_ok (c : CF) (ok : c.OK) (s : ByteArray) (h0 : cfE c = 0) (hs : bpO s = none) : Fn Tryz.prog 12 [.agg c.cells, .p (.v (.string s))] (.tup [.agg [.p (.v (.bool true)), .row 1, .p (.v (.string c.key)), .p (.v (.int .i64 c.port)), .row 0, .p (.v (.string ⟨#[]⟩)), .p (.v (.int .i64 0))], .p (.v (.int .i64 0)), .p (.v (.int .i64 0))]) [(0, .row 49 5 c.ps.length (c.ps.flatMap PE.pv)), (1, .row 86 5 (((spl s 10).map lnOf).map rdS).length ((((spl s 10).map lnOf).map rdS).flatMap SE.pv))] := by
  have hC := cfCheck_s c ok
  have hP := bparse_s s
  have hK := cfCopy_s c ok
  rw [h0] at hC
  rw [hs] at hP
  simp only [spR, bpN] at hP
  generalize ((spl s 10).map lnOf).map rdS = rl at *
  clear ok h0 hs
  obtain ⟨key, port, ps⟩ := c
  change Fn Tryz.prog _ [.agg [.p (.v (.string key)), .p (.v (.int .i64 port)), .p (.sl ps.length 5 (ps.flatMap PE.pv))]] _ _ at hC
  change Fn Tryz.prog _ [.agg [.p (.v (.string key)), .p (.v (.int .i64 port)), .p (.sl ps.length 5 (ps.flatMap PE.pv))]] (.agg [.p (.v (.string key)), .p (.v (.int .i64 port)), .row 0]) [(0, .row 49 5 ps.length (ps.flatMap PE.pv))] at hK
  show Fn Tryz.prog _ [.agg [.p (.v (.string key)), .p (.v (.int .i64 port)), .p (.sl ps.length 5 (ps.flatMap PE.pv))], _] (.tup [.agg [.p (.v (.bool true)), .row 1, .p (.v (.string key)), .p (.v (.int .i64 port)), .row 0, .p (.v (.string ⟨#[]⟩)), .p (.v (.int .i64 0))], .p (.v (.int .i64 0)), .p (.v (.int .i64 0))]) [(0, .row 49 5 ps.length (ps.flatMap PE.pv)), (1, .row 86 5 rl.length (rl.flatMap SE.pv))]
  generalize ps.flatMap PE.pv = L at *
  generalize ps.length = M at *
  generalize rl.flatMap SE.pv = RL at *
  generalize rl.length = rn at *
  refine fn_intro Tryz.func12 rfl (Nat.le_of_ble_eq_true rfl) fun w0 A => ?_
  refine awp_seq ?_
  refine tx ?_
  refine r_run (a_box (X := .agg _) 2 rfl) rfl rfl ⟨rfl, trivial⟩ ?_
  refine r_run (a_alloc 4 zr35 rfl) rfl rfl ⟨rfl, trivial⟩ ?_
  refine aP rfl rfl ?_
  refine aP rfl rfl ?_
  refine arun_nil ?_
  refine awp_seq (awp_seq ?_)
  refine tx ?_
  refine lN Tryz.underlying24 rfl sz24 rfl rfl ⟨rfl, trivial⟩ ?_
  refine r_callS (fun n => 12 + 1000 * n) (hC) rfl rfl Tryz.func20 rfl rfl (by first | rfl | simp [AV.okInL, AV.okIn, okInL_map]) rfl rfl rfl (by first | exact trivial | exact ⟨rfl, trivial⟩ | exact ⟨rfl, rfl, trivial⟩) rfl rfl rfl ?_
  refine aP rfl rfl ?_
  refine arun_nil ?_
  refine awp_seq ?_
  refine tx ?_
  refine mP rfl rfl ?_
  refine r_pure a_neqT rfl rfl ?_
  refine arun_nil ?_
  refine thn_n ?_
  refine awp_cond _ rfl (fun h => ?_) (fun h => ?_)
  · cases h
  refine awp_skip (awp_seq ?_)
  refine tx ?_
  refine mP rfl rfl ?_
  refine r_callS (fun n => 19 + 1000 * n) (hP) rfl rfl Tryz.func29 rfl rfl (by first | rfl | simp [AV.okInL, AV.okIn, okInL_map]) rfl rfl rfl (by first | exact trivial | exact ⟨rfl, trivial⟩ | exact ⟨rfl, rfl, trivial⟩) rfl rfl rfl ?_
  refine r_pure (a_move (r := .tup _)) rfl rfl ?_
  refine r_pure (a_extract rfl) rfl rfl ?_
  refine r_pure (a_extract rfl) rfl rfl ?_
  refine r_pure (a_extract rfl) rfl rfl ?_
  refine r_pure (a_assign (r := .row _)) rfl rfl ?_
  refine aP rfl rfl ?_
  refine aP rfl rfl ?_
  refine arun_nil ?_
  refine awp_seq (awp_seq ?_)
  refine tx ?_
  refine mP rfl rfl ?_
  refine r_pure a_neqT rfl rfl ?_
  refine arun_nil ?_
  refine thn_n ?_
  refine awp_cond _ rfl (fun h => ?_) (fun h => ?_)
  · cases h
  refine awp_skip (awp_seq ?_)
  refine tx ?_
  refine r_pure (a_move (r := .row _)) rfl rfl ?_
  refine lN Tryz.underlying24 rfl sz24 rfl rfl ⟨rfl, trivial⟩ ?_
  refine r_callS (fun n => 30 + 1000 * n) (hK) rfl rfl Tryz.func30 rfl rfl (by first | rfl | simp [AV.okInL, AV.okIn, okInL_map]) rfl rfl rfl (by first | exact trivial | exact ⟨rfl, trivial⟩ | exact ⟨rfl, rfl, trivial⟩) rfl rfl rfl ?_
  refine r_pure (b_build pl35 zr35 rfl rfl) rfl rfl ?_
  refine r_run (a_storeAll (Y := .agg [.p (.v (.bool true)), .row 19, .p (.v (.string key)), .p (.v (.int .i64 port)), .row 30, .p (.v (.string ⟨#[]⟩)), .p (.v (.int .i64 0))]) sz35 rfl rfl (Nat.eq_of_beq_eq_true rfl)) rfl rfl ⟨rfl, trivial⟩ ?_
  refine aP rfl rfl ?_
  refine aP rfl rfl ?_
  refine arun_nil ?_
  refine awp_ret ?_
  refine fT (fun o => bif Nat.beq o 0 then 30 else 19) (.cellN _ _ _ _ _ _ _ _ _ rfl rfl Tryz.underlying35 rfl sz35 (by first | assumption | kernel_rfl) (.tmp _ _ _ _ rfl (.tmp _ _ _ _ rfl .nil))) ?_ ?_
  · exact rfl
  · exact ⟨⟨rfl, rfl⟩, ⟨rfl, rfl⟩, trivial⟩
theorem refBegin_bad (c : CF) (ok : c.OK) (s : ByteArray) (h0 : cfE c ≠ 0) : Fn Tryz.prog 13 [.agg c.cells, .p (.v (.string s))] (.tup [.agg [.p (.v (.bool false)), .p (.v (.slice none 0 0)), .p (.v (.string ⟨#[]⟩)), .p (.v (.int .i64 0)), .p (.v (.slice none 0 0)), .p (.v (.string ⟨#[]⟩)), .p (.v (.int .i64 0))], .p (.v (.int .i64 0)), .p (.v (.int .i64 (cfE c)))]) [] := by
  have hC := refConf_s c ok
  generalize cfE c = e at *
  obtain ⟨key, port, ps⟩ := c
  change Fn Tryz.prog _ [.agg [.p (.v (.string key)), .p (.v (.int .i64 port)), .p (.sl ps.length 5 (ps.flatMap PE.pv))]] _ _ at hC
  show Fn Tryz.prog _ [.agg [.p (.v (.string key)), .p (.v (.int .i64 port)), .p (.sl ps.length 5 (ps.flatMap PE.pv))], _] _ _
  generalize ps.flatMap PE.pv = L at *
  generalize ps.length = M at *
  refine fn_intro Tryz.func13 rfl (Nat.le_of_ble_eq_true rfl) fun w0 A => ?_
  refine awp_seq ?_
  refine tx ?_
  refine r_run (a_box (X := .agg _) 2 rfl) rfl rfl ⟨rfl, trivial⟩ ?_
  refine r_run (a_alloc 4 zr35 rfl) rfl rfl ⟨rfl, trivial⟩ ?_
  refine aP rfl rfl ?_
  refine aP rfl rfl ?_
  refine arun_nil ?_
  refine awp_seq (awp_seq ?_)
  refine tx ?_
  refine lN Tryz.underlying24 rfl sz24 rfl rfl ⟨rfl, trivial⟩ ?_
  refine r_callS (fun n => 12 + 1000 * n) (hC) rfl rfl Tryz.func22 rfl rfl (by first | rfl | simp [AV.okInL, AV.okIn, okInL_map]) rfl rfl rfl (by first | exact trivial | exact ⟨rfl, trivial⟩ | exact ⟨rfl, rfl, trivial⟩) rfl rfl rfl ?_
  refine aP rfl rfl ?_
  refine arun_nil ?_
  refine awp_seq ?_
  refine tx ?_
  refine mP rfl rfl ?_
  refine r_pure a_neq rfl rfl ?_
  refine arun_nil ?_
  refine thn_n ?_
  refine awp_cond _ rfl (fun h => ?_) (fun h => ?_)
  · refine awp_seq ?_
    refine tx ?_
    refine r_pure (b_build pl35 zr35 rfl rfl) rfl rfl ?_
    refine mP rfl rfl ?_
    refine r_run (a_storeAll (Y := .agg [.p (.v (.bool false)), .p (.v (.slice none 0 0)), .p (.v (.string ⟨#[]⟩)), .p (.v (.int .i64 0)), .p (.v (.slice none 0 0)), .p (.v (.string ⟨#[]⟩)), .p (.v (.int .i64 0))]) sz35 rfl rfl (Nat.eq_of_beq_eq_true rfl)) rfl rfl ⟨rfl, trivial⟩ ?_
    refine aP rfl rfl ?_
    refine aP rfl rfl ?_
    refine arun_nil ?_
    refine awp_ret (thn_r ?_)
    refine fT (fun o => o) (.cellN _ _ _ _ _ _ _ _ _ rfl rfl Tryz.underlying35 rfl sz35 (by first | assumption | kernel_rfl) (.tmp _ _ _ _ rfl (.tmp _ _ _ _ rfl .nil))) ?_ ?_
    · exact rfl
    · exact trivial
  · exact absurd (by simpa using h) h0
theorem refBegin_bad2 (c : CF) (ok : c.OK) (s : ByteArray) (h0 : cfE c = 0) (n e : Int) (hs : bpO s = some (n, e)) (he : e ≠ 0) : Fn Tryz.prog 13 [.agg c.cells, .p (.v (.string s))] (.tup [.agg [.p (.v (.bool false)), .p (.v (.slice none 0 0)), .p (.v (.string ⟨#[]⟩)), .p (.v (.int .i64 0)), .p (.v (.slice none 0 0)), .p (.v (.string ⟨#[]⟩)), .p (.v (.int .i64 0))], .p (.v (.int .i64 n)), .p (.v (.int .i64 e))]) [] := by
  have hC := refConf_s c ok
  have hP := refBatch_s s
  rw [h0] at hC
  rw [hs] at hP
  simp only [spR, bpN] at hP
  clear ok h0 hs
  obtain ⟨key, port, ps⟩ := c
  change Fn Tryz.prog _ [.agg [.p (.v (.string key)), .p (.v (.int .i64 port)), .p (.sl ps.length 5 (ps.flatMap PE.pv))]] _ _ at hC
  show Fn Tryz.prog _ [.agg [.p (.v (.string key)), .p (.v (.int .i64 port)), .p (.sl ps.length 5 (ps.flatMap PE.pv))], _] _ _
  generalize ps.flatMap PE.pv = L at *
  generalize ps.length = M at *
  refine fn_intro Tryz.func13 rfl (Nat.le_of_ble_eq_true rfl) fun w0 A => ?_
  refine awp_seq ?_
  refine tx ?_
  refine r_run (a_box (X := .agg _) 2 rfl) rfl rfl ⟨rfl, trivial⟩ ?_
  refine r_run (a_alloc 4 zr35 rfl) rfl rfl ⟨rfl, trivial⟩ ?_
  refine aP rfl rfl ?_
  refine aP rfl rfl ?_
  refine arun_nil ?_
  refine awp_seq (awp_seq ?_)
  refine tx ?_
  refine lN Tryz.underlying24 rfl sz24 rfl rfl ⟨rfl, trivial⟩ ?_
  refine r_callS (fun n => 12 + 1000 * n) (hC) rfl rfl Tryz.func22 rfl rfl (by first | rfl | simp [AV.okInL, AV.okIn, okInL_map]) rfl rfl rfl (by first | exact trivial | exact ⟨rfl, trivial⟩ | exact ⟨rfl, rfl, trivial⟩) rfl rfl rfl ?_
  refine aP rfl rfl ?_
  refine arun_nil ?_
  refine awp_seq ?_
  refine tx ?_
  refine mP rfl rfl ?_
  refine r_pure a_neqT rfl rfl ?_
  refine arun_nil ?_
  refine thn_n ?_
  refine awp_cond _ rfl (fun h => ?_) (fun h => ?_)
  · cases h
  refine awp_skip (awp_seq ?_)
  refine tx ?_
  refine mP rfl rfl ?_
  refine r_callS (fun n => 19 + 1000 * n) (hP) rfl rfl Tryz.func31 rfl rfl (by first | rfl | simp [AV.okInL, AV.okIn, okInL_map]) rfl rfl rfl (by first | exact trivial | exact ⟨rfl, trivial⟩ | exact ⟨rfl, rfl, trivial⟩) rfl rfl rfl ?_
  refine r_pure (a_move (r := .tup _)) rfl rfl ?_
  refine r_pure (a_extract rfl) rfl rfl ?_
  refine r_pure (a_extract rfl) rfl rfl ?_
  refine r_pure (a_extract rfl) rfl rfl ?_
  refine aP rfl rfl ?_
  refine aP rfl rfl ?_
  refine aP rfl rfl ?_
  refine arun_nil ?_
  refine awp_seq (awp_seq ?_)
  refine tx ?_
  refine mP rfl rfl ?_
  refine r_pure a_neq rfl rfl ?_
  refine arun_nil ?_
  refine thn_n ?_
  refine awp_cond _ rfl (fun h => ?_) (fun h => ?_)
  · refine awp_seq ?_
    refine tx ?_
    refine r_pure (b_build pl35 zr35 rfl rfl) rfl rfl ?_
    refine mP rfl rfl ?_
    refine mP rfl rfl ?_
    refine r_run (a_storeAll (Y := .agg [.p (.v (.bool false)), .p (.v (.slice none 0 0)), .p (.v (.string ⟨#[]⟩)), .p (.v (.int .i64 0)), .p (.v (.slice none 0 0)), .p (.v (.string ⟨#[]⟩)), .p (.v (.int .i64 0))]) sz35 rfl rfl (Nat.eq_of_beq_eq_true rfl)) rfl rfl ⟨rfl, trivial⟩ ?_
    refine aP rfl rfl ?_
    refine aP rfl rfl ?_
    refine arun_nil ?_
    refine awp_ret (thn_r ?_)
    refine fT (fun o => o) (.cellN _ _ _ _ _ _ _ _ _ rfl rfl Tryz.underlying35 rfl sz35 (by first | assumption | kernel_rfl) (.tmp _ _ _ _ rfl (.tmp _ _ _ _ rfl .nil))) ?_ ?_
    · exact rfl
    · exact trivial
  · exact absurd (by simpa using h) he
theorem refBegin_nil (c : CF) (ok : c.OK) (s : ByteArray) (h0 : cfE c = 0) (hs : bpO s = some (0, 0)) : Fn Tryz.prog 13 [.agg c.cells, .p (.v (.string s))] (.tup [.agg [.p (.v (.bool true)), .p (.v (.slice none 0 0)), .p (.v (.string c.key)), .p (.v (.int .i64 c.port)), .row 0, .p (.v (.string ⟨#[]⟩)), .p (.v (.int .i64 0))], .p (.v (.int .i64 0)), .p (.v (.int .i64 0))]) [(0, .row 49 5 c.ps.length (c.ps.flatMap PE.pv))] := by
  have hC := refConf_s c ok
  have hP := refBatch_s s
  have hK := refCopy_s c ok
  rw [h0] at hC
  rw [hs] at hP
  simp only [spR, bpN] at hP
  generalize ((spl s 10).map lnOf).map rdS = rl at *
  clear ok h0 hs
  obtain ⟨key, port, ps⟩ := c
  change Fn Tryz.prog _ [.agg [.p (.v (.string key)), .p (.v (.int .i64 port)), .p (.sl ps.length 5 (ps.flatMap PE.pv))]] _ _ at hC
  change Fn Tryz.prog _ [.agg [.p (.v (.string key)), .p (.v (.int .i64 port)), .p (.sl ps.length 5 (ps.flatMap PE.pv))]] (.agg [.p (.v (.string key)), .p (.v (.int .i64 port)), .row 0]) [(0, .row 49 5 ps.length (ps.flatMap PE.pv))] at hK
  show Fn Tryz.prog _ [.agg [.p (.v (.string key)), .p (.v (.int .i64 port)), .p (.sl ps.length 5 (ps.flatMap PE.pv))], _] (.tup [.agg [.p (.v (.bool true)), .p (.v (.slice none 0 0)), .p (.v (.string key)), .p (.v (.int .i64 port)), .row 0, .p (.v (.string ⟨#[]⟩)), .p (.v (.int .i64 0))], .p (.v (.int .i64 0)), .p (.v (.int .i64 0))]) [(0, .row 49 5 ps.length (ps.flatMap PE.pv))]
  generalize ps.flatMap PE.pv = L at *
  generalize ps.length = M at *
  generalize rl.flatMap SE.pv = RL at *
  generalize rl.length = rn at *
  refine fn_intro Tryz.func13 rfl (Nat.le_of_ble_eq_true rfl) fun w0 A => ?_
  refine awp_seq ?_
  refine tx ?_
  refine r_run (a_box (X := .agg _) 2 rfl) rfl rfl ⟨rfl, trivial⟩ ?_
  refine r_run (a_alloc 4 zr35 rfl) rfl rfl ⟨rfl, trivial⟩ ?_
  refine aP rfl rfl ?_
  refine aP rfl rfl ?_
  refine arun_nil ?_
  refine awp_seq (awp_seq ?_)
  refine tx ?_
  refine lN Tryz.underlying24 rfl sz24 rfl rfl ⟨rfl, trivial⟩ ?_
  refine r_callS (fun n => 12 + 1000 * n) (hC) rfl rfl Tryz.func22 rfl rfl (by first | rfl | simp [AV.okInL, AV.okIn, okInL_map]) rfl rfl rfl (by first | exact trivial | exact ⟨rfl, trivial⟩ | exact ⟨rfl, rfl, trivial⟩) rfl rfl rfl ?_
  refine aP rfl rfl ?_
  refine arun_nil ?_
  refine awp_seq ?_
  refine tx ?_
  refine mP rfl rfl ?_
  refine r_pure a_neqT rfl rfl ?_
  refine arun_nil ?_
  refine thn_n ?_
  refine awp_cond _ rfl (fun h => ?_) (fun h => ?_)
  · cases h
  refine awp_skip (awp_seq ?_)
  refine tx ?_
  refine mP rfl rfl ?_
  refine r_callS (fun n => 19 + 1000 * n) (hP) rfl rfl Tryz.func31 rfl rfl (by first | rfl | simp [AV.okInL, AV.okIn, okInL_map]) rfl rfl rfl (by first | exact trivial | exact ⟨rfl, trivial⟩ | exact ⟨rfl, rfl, trivial⟩) rfl rfl rfl ?_
  refine r_pure (a_move (r := .tup _)) rfl rfl ?_
  refine r_pure (a_extract rfl) rfl rfl ?_
  refine r_pure (a_extract rfl) rfl rfl ?_
  refine r_pure (a_extract rfl) rfl rfl ?_
  refine aP rfl rfl ?_
  refine aP rfl rfl ?_
  refine aP rfl rfl ?_
  refine arun_nil ?_
  refine awp_seq (awp_seq ?_)
  refine tx ?_
  refine mP rfl rfl ?_
  refine r_pure a_neqT rfl rfl ?_
  refine arun_nil ?_
  refine thn_n ?_
  refine awp_cond _ rfl (fun h => ?_) (fun h => ?_)
  · cases h
  refine awp_skip (awp_seq ?_)
  refine tx ?_
  refine mP rfl rfl ?_
  refine lN Tryz.underlying24 rfl sz24 rfl rfl ⟨rfl, trivial⟩ ?_
  refine r_callS (fun n => 30 + 1000 * n) (hK) rfl rfl Tryz.func32 rfl rfl (by first | rfl | simp [AV.okInL, AV.okIn, okInL_map]) rfl rfl rfl (by first | exact trivial | exact ⟨rfl, trivial⟩ | exact ⟨rfl, rfl, trivial⟩) rfl rfl rfl ?_
  refine r_pure (b_build pl35 zr35 rfl rfl) rfl rfl ?_
  refine r_run (a_storeAll (Y := .agg [.p (.v (.bool true)), .p (.v (.slice none 0 0)), .p (.v (.string key)), .p (.v (.int .i64 port)), .row 30, .p (.v (.string ⟨#[]⟩)), .p (.v (.int .i64 0))]) sz35 rfl rfl (Nat.eq_of_beq_eq_true rfl)) rfl rfl ⟨rfl, trivial⟩ ?_
  refine aP rfl rfl ?_
  refine aP rfl rfl ?_
  refine arun_nil ?_
  refine awp_ret ?_
  refine fT (fun _ => 30) (.cellN _ _ _ _ _ _ _ _ _ rfl rfl Tryz.underlying35 rfl sz35 (by first | assumption | kernel_rfl) (.tmp _ _ _ _ rfl (.tmp _ _ _ _ rfl .nil))) ?_ ?_
  · exact rfl
  · exact ⟨⟨rfl, rfl⟩, trivial⟩
theorem refBegin_ok (c : CF) (ok : c.OK) (s : ByteArray) (h0 : cfE c = 0) (hs : bpO s = none) : Fn Tryz.prog 13 [.agg c.cells, .p (.v (.string s))] (.tup [.agg [.p (.v (.bool true)), .row 1, .p (.v (.string c.key)), .p (.v (.int .i64 c.port)), .row 0, .p (.v (.string ⟨#[]⟩)), .p (.v (.int .i64 0))], .p (.v (.int .i64 0)), .p (.v (.int .i64 0))]) [(0, .row 49 5 c.ps.length (c.ps.flatMap PE.pv)), (1, .row 86 5 (((spl s 10).map lnOf).map rdS).length ((((spl s 10).map lnOf).map rdS).flatMap SE.pv))] := by
  have hC := refConf_s c ok
  have hP := refBatch_s s
  have hK := refCopy_s c ok
  rw [h0] at hC
  rw [hs] at hP
  simp only [spR, bpN] at hP
  generalize ((spl s 10).map lnOf).map rdS = rl at *
  clear ok h0 hs
  obtain ⟨key, port, ps⟩ := c
  change Fn Tryz.prog _ [.agg [.p (.v (.string key)), .p (.v (.int .i64 port)), .p (.sl ps.length 5 (ps.flatMap PE.pv))]] _ _ at hC
  change Fn Tryz.prog _ [.agg [.p (.v (.string key)), .p (.v (.int .i64 port)), .p (.sl ps.length 5 (ps.flatMap PE.pv))]] (.agg [.p (.v (.string key)), .p (.v (.int .i64 port)), .row 0]) [(0, .row 49 5 ps.length (ps.flatMap PE.pv))] at hK
  show Fn Tryz.prog _ [.agg [.p (.v (.string key)), .p (.v (.int .i64 port)), .p (.sl ps.length 5 (ps.flatMap PE.pv))], _] (.tup [.agg [.p (.v (.bool true)), .row 1, .p (.v (.string key)), .p (.v (.int .i64 port)), .row 0, .p (.v (.string ⟨#[]⟩)), .p (.v (.int .i64 0))], .p (.v (.int .i64 0)), .p (.v (.int .i64 0))]) [(0, .row 49 5 ps.length (ps.flatMap PE.pv)), (1, .row 86 5 rl.length (rl.flatMap SE.pv))]
  generalize ps.flatMap PE.pv = L at *
  generalize ps.length = M at *
  generalize rl.flatMap SE.pv = RL at *
  generalize rl.length = rn at *
  refine fn_intro Tryz.func13 rfl (Nat.le_of_ble_eq_true rfl) fun w0 A => ?_
  refine awp_seq ?_
  refine tx ?_
  refine r_run (a_box (X := .agg _) 2 rfl) rfl rfl ⟨rfl, trivial⟩ ?_
  refine r_run (a_alloc 4 zr35 rfl) rfl rfl ⟨rfl, trivial⟩ ?_
  refine aP rfl rfl ?_
  refine aP rfl rfl ?_
  refine arun_nil ?_
  refine awp_seq (awp_seq ?_)
  refine tx ?_
  refine lN Tryz.underlying24 rfl sz24 rfl rfl ⟨rfl, trivial⟩ ?_
  refine r_callS (fun n => 12 + 1000 * n) (hC) rfl rfl Tryz.func22 rfl rfl (by first | rfl | simp [AV.okInL, AV.okIn, okInL_map]) rfl rfl rfl (by first | exact trivial | exact ⟨rfl, trivial⟩ | exact ⟨rfl, rfl, trivial⟩) rfl rfl rfl ?_
  refine aP rfl rfl ?_
  refine arun_nil ?_
  refine awp_seq ?_
  refine tx ?_
  refine mP rfl rfl ?_
  refine r_pure a_neqT rfl rfl ?_
  refine arun_nil ?_
  refine thn_n ?_
  refine awp_cond _ rfl (fun h => ?_) (fun h => ?_)
  · cases h
  refine awp_skip (awp_seq ?_)
  refine tx ?_
  refine mP rfl rfl ?_
  refine r_callS (fun n => 19 + 1000 * n) (hP) rfl rfl Tryz.func31 rfl rfl (by first | rfl | simp [AV.okInL, AV.okIn, okInL_map]) rfl rfl rfl (by first | exact trivial | exact ⟨rfl, trivial⟩ | exact ⟨rfl, rfl, trivial⟩) rfl rfl rfl ?_
  refine r_pure (a_move (r := .tup _)) rfl rfl ?_
  refine r_pure (a_extract rfl) rfl rfl ?_
  refine r_pure (a_extract rfl) rfl rfl ?_
  refine r_pure (a_extract rfl) rfl rfl ?_
  refine r_pure (a_assign (r := .row _)) rfl rfl ?_
  refine aP rfl rfl ?_
  refine aP rfl rfl ?_
  refine arun_nil ?_
  refine awp_seq (awp_seq ?_)
  refine tx ?_
  refine mP rfl rfl ?_
  refine r_pure a_neqT rfl rfl ?_
  refine arun_nil ?_
  refine thn_n ?_
  refine awp_cond _ rfl (fun h => ?_) (fun h => ?_)
  · cases h
  refine awp_skip (awp_seq ?_)
  refine tx ?_
  refine r_pure (a_move (r := .row _)) rfl rfl ?_
  refine lN Tryz.underlying24 rfl sz24 rfl rfl ⟨rfl, trivial⟩ ?_
  refine r_callS (fun n => 30 + 1000 * n) (hK) rfl rfl Tryz.func32 rfl rfl (by first | rfl | simp [AV.okInL, AV.okIn, okInL_map]) rfl rfl rfl (by first | exact trivial | exact ⟨rfl, trivial⟩ | exact ⟨rfl, rfl, trivial⟩) rfl rfl rfl ?_
  refine r_pure (b_build pl35 zr35 rfl rfl) rfl rfl ?_
  refine r_run (a_storeAll (Y := .agg [.p (.v (.bool true)), .row 19, .p (.v (.string key)), .p (.v (.int .i64 port)), .row 30, .p (.v (.string ⟨#[]⟩)), .p (.v (.int .i64 0))]) sz35 rfl rfl (Nat.eq_of_beq_eq_true rfl)) rfl rfl ⟨rfl, trivial⟩ ?_
  refine aP rfl rfl ?_
  refine aP rfl rfl ?_
  refine arun_nil ?_
  refine awp_ret ?_
  refine fT (fun o => bif Nat.beq o 0 then 30 else 19) (.cellN _ _ _ _ _ _ _ _ _ rfl rfl Tryz.underlying35 rfl sz35 (by first | assumption | kernel_rfl) (.tmp _ _ _ _ rfl (.tmp _ _ _ _ rfl .nil))) ?_ ?_
  · exact rfl
  · exact ⟨⟨rfl, rfl⟩, ⟨rfl, rfl⟩, trivial⟩
end Go.Proofs.YtgpleldhddpcgaaGreatDoor
