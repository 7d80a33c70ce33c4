/- conf.Copy, conf.Find, the reference's PeerAt, the law's sameConf, over data. -/
import Derived.Test.YtgpleldhddpcgaaGreatDoorSCf2
import Derived.Test.YtgpleldhddpcgaaGreatDoorSBt1
import Derived.Test.YtgpleldhddpcgaaGreatDoorSFz
namespace Go.Proofs.YtgpleldhddpcgaaGreatDoor
open Go.RowKit Go.Sort
set_option linter.unusedVariables false
set_option linter.unusedSimpArgs false
set_option maxRecDepth 100000
theorem nclone_s (l : List NtP) (hn : l.length ≤ 1048576) : Fn Tryz.prog 73 [.p (.sl l.length 2 (l.flatMap ntC))] (.row 0) [(0, .row 52 2 l.length (l.flatMap ntC))] := by
  have hL : (l.flatMap ntC).length = l.length * 2 := chunk_len (f := ntC) (k := 2) (fun _ => rfl) l
  by_cases h0 : l.length = 0
  · obtain rfl : l = [] := List.eq_nil_of_length_eq_zero h0
    show Fn Tryz.prog _ [.p (.sl 0 2 [])] (.row 0) [(0, .row 52 2 0 [])]
    refine fn_intro Tryz.func73 rfl (Nat.le_of_ble_eq_true rfl) fun w0 A => ?_
    refine awp_seq ?_
    refine tx ?_
    refine aP rfl rfl ?_
    refine arun_nil ?_
    refine awp_seq (awp_seq ?_)
    refine tx ?_
    refine mP rfl rfl ?_
    refine r_pure (a_seqX Tryz.underlying47) rfl rfl ?_
    refine arun_nil ?_
    refine thn_n ?_
    refine awp_condX rfl ?_ ?_
    · refine awp_seq ?_
      refine tx ?_
      refine aP rfl rfl ?_
      refine arun_nil ?_
      refine thn_n (awp_re (re_nil 2 100 52 2 rfl rfl) ?_)
      refine awp_ret (thn_r ?_)
      refine fT (fun _ => 100) (.tmp _ _ _ _ rfl .nil) ?_ ?_
      · exact rfl
      · exact ⟨⟨rfl, rfl⟩, trivial⟩
    · refine awp_skip (awp_seq ?_)
      refine tx ?_
      refine r_run (a_buildSlice0 5 Tryz.underlying47 sz52) rfl rfl ⟨rfl, trivial⟩ ?_
      refine mP rfl rfl ?_
      refine r_run (a_append 7 Tryz.underlying47 eo52 (src_sl) (by simp only [maxLen]; omega) (by omega) rfl rfl) rfl rfl ⟨rfl, rfl, trivial⟩ ?_
      refine r_pure (a_assign (r := .row _)) rfl rfl ?_
      refine arun_nil ?_
      refine awp_ret ?_
      refine fT (fun _ => 7) (.tmp _ _ _ _ rfl .nil) ?_ ?_
      · exact rfl
      · exact ⟨⟨rfl, rfl⟩, trivial⟩
  · generalize l.flatMap ntC = L at *
    generalize l.length = n at *
    refine fn_intro Tryz.func73 rfl (Nat.le_of_ble_eq_true rfl) fun w0 A => ?_
    refine awp_seq ?_
    refine tx ?_
    refine aP rfl rfl ?_
    refine arun_nil ?_
    refine awp_seq (awp_seq ?_)
    refine tx ?_
    refine mP rfl rfl ?_
    refine r_pure (a_seqS Tryz.underlying47 (by omega)) rfl rfl ?_
    refine arun_nil ?_
    refine thn_n ?_
    refine awp_cond _ rfl (fun h => ?_) (fun h => ?_)
    · cases h
    · refine awp_skip (awp_seq ?_)
      refine tx ?_
      refine r_run (a_buildSlice0 5 Tryz.underlying47 sz52) rfl rfl ⟨rfl, trivial⟩ ?_
      refine mP rfl rfl ?_
      refine r_run (a_append 7 Tryz.underlying47 eo52 (src_sl) (by simp only [maxLen]; omega) (by omega) (show _ = n by omega) rfl) rfl rfl ⟨rfl, rfl, trivial⟩ ?_
      refine r_pure (a_assign (r := .row _)) rfl rfl ?_
      refine arun_nil ?_
      refine awp_ret ?_
      refine fT (fun _ => 7) (.tmp _ _ _ _ rfl .nil) ?_ ?_
      · exact rfl
      · exact ⟨⟨rfl, rfl⟩, trivial⟩
theorem pe_push (l : List PE) (i : Nat) (p : PE) (h : l[i]? = some p) : (l.take i).flatMap PE.pv ++ p.pv = (l.take (i + 1)).flatMap PE.pv := by
  obtain ⟨h1, h2⟩ := List.getElem?_eq_some_iff.1 h
  rw [List.take_succ_eq_append_getElem h1, h2, List.flatMap_append]
  simp
set_option maxHeartbeats 4000000 in
theorem cfCopy_s (c : CF) (ok : c.OK) : Fn Tryz.prog 30 [.agg c.cells] (.agg [.p (.v (.string c.key)), .p (.v (.int .i64 c.port)), .row 0]) [(0, .row 49 5 c.ps.length (c.ps.flatMap PE.pv))] := by
  obtain ⟨key, port, l⟩ := c
  obtain ⟨hn, ok⟩ := ok
  dsimp only at hn ok
  show Fn Tryz.prog _ [.agg (cfC key port l.length (l.flatMap PE.pv))] (.agg [.p (.v (.string key)), .p (.v (.int .i64 port)), .row 0]) [(0, .row 49 5 l.length (l.flatMap PE.pv))]
  refine fn_intro Tryz.func30 rfl (Nat.le_of_ble_eq_true rfl) fun w0 A => ?_
  refine awp_seq ?_
  refine tx ?_
  refine r_run (a_box (X := .agg _) 1 rfl) rfl rfl ⟨rfl, trivial⟩ ?_
  refine r_run (a_alloc 2 zr24 rfl) rfl rfl ⟨rfl, trivial⟩ ?_
  refine arun_nil ?_
  refine awp_seq ?_
  refine tx ?_
  refine fA fi24_2 rfl rfl ?_
  refine l1 Tryz.underlying22 rfl rfl rfl ⟨rfl, trivial⟩ ?_
  refine r_pure (a_lenS Tryz.underlying22) rfl rfl ?_
  refine r_run (a_make0 9 Tryz.underlying22 eo49 (by omega) (by omega) (by simp only [maxLen]; omega)) rfl rfl ⟨rfl, trivial⟩ ?_
  refine r_pure (a_assign (r := .row _)) rfl rfl ?_
  refine arun_nil ?_
  refine awp_seq (awp_seq ?_)
  refine tx ?_
  refine fA fi24_2 rfl rfl ?_
  refine l1 Tryz.underlying22 rfl rfl rfl ⟨rfl, trivial⟩ ?_
  refine r_pure (a_lenS Tryz.underlying22) rfl rfl ?_
  refine mP rfl rfl ?_
  refine arun_nil ?_
  refine awp_block ?_
  refine awp_loopR (fun m st => ∃ i : Nat, m + i = l.length ∧ st = St.of [(1, .ref 1 0), (2, .ref 2 0), (3, .row 100), (11, .p (.sl l.length 5 (l.flatMap PE.pv))), (12, .p (.v (.int .i64 l.length))), (13, .p (.v (.int .i64 i)))] [(1, .box 24 (cfC key port l.length (l.flatMap PE.pv))), (2, .box 24 [.p (.v (.string ⟨#[]⟩)), .p (.v (.int .i64 0)), .p (.v (.slice none 0 0))]), (100, .row 49 5 i ((l.take i).flatMap PE.pv))]) l.length ?_ ?_
  · refine ⟨_, re_of (fun o => bif Nat.beq o 100 then 9 else o) _ _ ?_ ?_ rfl, 0, by omega, rfl⟩
    · (repeat (first | exact trivial | (refine ⟨⟨(by first | rfl | (simp; done) | (simp; omega)), rfl⟩, ?_⟩)))
    · exact ⟨⟨rfl, rfl⟩, ⟨rfl, rfl⟩, ⟨rfl, rfl⟩, trivial⟩
  rintro m st ⟨i, hi, rfl⟩
  refine awp_seq ?_
  refine tx ?_
  refine r_pure a_lss rfl rfl ?_
  refine arun_nil ?_
  refine awp_seq ?_
  refine awp_cond _ rfl (fun h => ?_) (fun h => ?_)
  · have hlt : i < l.length := by simp at h; omega
    clear h
    obtain ⟨p, hp⟩ : ∃ p, l[i]? = some p := ⟨l[i], List.getElem?_eq_getElem hlt⟩
    have hch := chunk_at (f := PE.pv) (k := 5) (fun _ => rfl) hp
    have hle := chunk_le (f := PE.pv) (k := 5) (fun _ => rfl) hlt
    have hpl := (ok p (List.mem_of_getElem? hp)).2
    have hC := nclone_s p.nets hpl
    have hpush := pe_push l i p hp
    have hil : ((l.take i).flatMap PE.pv).length = i * 5 := by rw [chunk_len (k := 5) (fun _ => rfl), List.length_take, Nat.min_eq_left (by omega)]
    generalize hL : l.flatMap PE.pv = L at *
    generalize (l.take i).flatMap PE.pv = T at *
    obtain ⟨pk, sh, ep, al, nn⟩ := p
    dsimp only at hC hpl
    refine awp_skip (awp_seq (awp_block (awp_seq ?_)))
    refine tx ?_
    refine r_pure (a_indexAddrS Tryz.underlying22 sz49 (by omega) (by omega) rfl) rfl rfl ?_
    refine r_pure (a_loadNp Tryz.underlying49 rfl sz49 (by first | omega | (simp; done) | (simp; omega)) (hch)) rfl rfl ?_
    refine r_run (a_alloc 5 zr49 rfl) rfl rfl ⟨rfl, trivial⟩ ?_
    refine r_run (a_storeAll (Y := .agg [.p (.v (.string pk)), .p (.v (.string sh)), .p (.v (.string ep)), .p (.v (.int .i64 al)), .p (.sl nn.length 2 (nn.flatMap ntC))]) sz49 rfl rfl (Nat.eq_of_beq_eq_true rfl)) rfl rfl ⟨rfl, trivial⟩ ?_
    refine arun_nil ?_
    refine awp_seq ?_
    refine tx ?_
    refine fA fi49_4 rfl rfl ?_
    refine l1 Tryz.underlying47 rfl rfl rfl ⟨rfl, trivial⟩ ?_
    refine r_callS (fun _ => 19) (hC) rfl rfl Tryz.func73 rfl rfl (by first | rfl | simp [AV.okInL, AV.okIn, okInL_map]) rfl rfl rfl (by first | exact trivial | exact ⟨rfl, trivial⟩ | exact ⟨rfl, rfl, trivial⟩) rfl rfl rfl ?_
    refine fA fi49_4 rfl rfl ?_
    refine r_run (a_store (Y := .row _) sz47 rfl (by first | exact Nat.eq_of_beq_eq_true rfl | (simp only [AV.cells, List.length_map]; first | assumption | omega)) (by first | exact Nat.le_of_ble_eq_true rfl | omega | (simp only [AV.cells, List.length_map]; omega)) (by first | (simp only [setR, AV.cells, List.take_succ_cons, List.take_zero, List.drop_succ_cons, List.drop_zero, List.drop_nil, List.take_nil, List.nil_append, List.cons_append, List.append_nil, List.length_cons, List.length_nil, Nat.reduceAdd, Nat.zero_add, Nat.add_zero]; rfl) | rfl)) rfl rfl ⟨rfl, trivial⟩ ?_
    refine arun_nil ?_
    refine thn_reO (reo_fzR (cs := nn.flatMap ntC) 19 rfl) ?_
    skip
    refine tx ?_
    refine r_pure (a_move (r := .row _)) rfl rfl ?_
    refine lN Tryz.underlying49 rfl sz49 rfl rfl ⟨rfl, trivial⟩ ?_
    refine r_run (a_buildSlice 23 Tryz.underlying22 sz49 zc49 (Nat.le_of_ble_eq_true rfl) (Nat.le_of_ble_eq_true rfl) rfl rfl rfl rfl (Nat.le_of_ble_eq_true rfl)) rfl rfl ⟨rfl, trivial⟩ ?_
    refine r_run (a_append 24 Tryz.underlying22 eo49 (src_row) (by simp only [maxLen]; omega) (by omega) rfl rfl) rfl rfl ⟨rfl, rfl, rfl, trivial⟩ ?_
    refine r_pure (a_assign (r := .row _)) rfl rfl ?_
    refine arun_nil ?_
    refine inb_n (thn_n ?_)
    refine tx ?_
    refine r_pure (a_add (by first | exact IntWalk.i64_in _ (by omega) | rfl)) rfl rfl ?_
    refine mP rfl rfl ?_
    refine arun_nil ?_
    refine thn_n ?_
    refine ⟨m - 1, by omega, _, re_of (fun o => bif Nat.beq o 100 then 24 else o) _ _ ?_ ?_ rfl, i + 1, by omega, rfl⟩
    · (repeat (first | exact trivial | (refine ⟨⟨(by first | rfl | (simp; done) | (simp; omega)), rfl⟩, ?_⟩)))
    · exact ⟨⟨rfl, rfl⟩, ⟨rfl, rfl⟩, ⟨by rw [← hpush]; rfl, rfl⟩, trivial⟩
  have hge : i = l.length := by simp at h; omega
  clear h
  subst hge
  rw [List.take_length]
  refine awp_exit (awp_seq ?_)
  refine tx ?_
  refine r_pure (a_move (r := .row _)) rfl rfl ?_
  refine fA fi24_2 rfl rfl ?_
  refine r_run (a_store (Y := .row _) sz22 rfl (by first | exact Nat.eq_of_beq_eq_true rfl | (simp only [AV.cells, List.length_map]; first | assumption | omega)) (by first | exact Nat.le_of_ble_eq_true rfl | omega | (simp only [AV.cells, List.length_map]; omega)) (by first | (simp only [setR, AV.cells, List.take_succ_cons, List.take_zero, List.drop_succ_cons, List.drop_zero, List.drop_nil, List.take_nil, List.nil_append, List.cons_append, List.append_nil, List.length_cons, List.length_nil, Nat.reduceAdd, Nat.zero_add, Nat.add_zero]; rfl) | rfl)) rfl rfl ⟨rfl, trivial⟩ ?_
  refine arun_nil ?_
  refine awp_seq ?_
  refine tx ?_
  refine lN Tryz.underlying24 rfl sz24 rfl rfl ⟨rfl, trivial⟩ ?_
  refine r_run (a_storeAll (Y := .agg _) sz24 rfl (by first | exact Nat.eq_of_beq_eq_true rfl | (simp only [AV.cells, List.length_map]; first | assumption | omega)) (Nat.eq_of_beq_eq_true rfl)) rfl rfl ⟨rfl, trivial⟩ ?_
  refine arun_nil ?_
  refine awp_ret ?_
  refine fT (fun _ => 100) (.cellN _ _ _ _ _ _ _ _ _ rfl rfl Tryz.underlying24 rfl sz24 (by first | assumption | kernel_rfl) .nil) ?_ ?_
  · exact rfl
  · exact ⟨⟨rfl, rfl⟩, trivial⟩
end Go.Proofs.YtgpleldhddpcgaaGreatDoor
