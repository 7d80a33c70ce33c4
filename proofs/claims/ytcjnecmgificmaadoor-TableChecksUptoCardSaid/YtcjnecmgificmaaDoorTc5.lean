/- table.Copy, over data; the law TableChecks. -/
import Derived.Test.YtcjnecmgificmaaDoorTc3
import Derived.Test.YtcjnecmgificmaaDoorTc4
import Derived.Test.YtcjnecmgificmaaDoorFz
--%T
namespace Go.Proofs.YtcjnecmgificmaaDoor
open Go.RowKit Go.Sort
set_option linter.unusedVariables false
set_option linter.unusedSimpArgs false
set_option maxRecDepth 100000

theorem bclone_s (n : Nat) (xs : List Int) (hx : xs.length = n) (hn : n ≤ 140737488355328) : Fn Tryd.prog 54 [.p (.sl n 1 (bs xs))] (.row 0) [(0, .row 5 1 n (bs xs))] := by
  refine fn_intro Tryd.func54 rfl (Nat.le_of_ble_eq_true rfl) fun w0 A => ?_
  refine awp_seq ?_
  refine tx ?_
  refine aP rfl rfl ?_
  refine arun_nil ?_
  by_cases h0 : n = 0
  · subst h0
    obtain rfl : xs = [] := List.eq_nil_of_length_eq_zero hx
    refine awp_seq (awp_seq ?_)
    refine tx ?_
    refine mP rfl rfl ?_
    refine r_pure (a_seqX Tryd.underlying95) rfl rfl ?_
    refine arun_nil ?_
    refine thn_n ?_
    refine awp_condX rfl ?_ ?_
    · refine awp_seq ?_
      refine tx ?_
      refine aP rfl rfl ?_
      refine arun_nil ?_
      refine thn_n (awp_re (re_nil 2 100 5 1 rfl rfl) ?_)
      refine awp_ret (thn_r ?_)
      refine fT (fun _ => 100) (.tmp _ _ _ _ rfl .nil) ?_ ?_
      · exact rfl
      · exact ⟨⟨rfl, rfl⟩, trivial⟩
    · refine awp_skip (awp_seq ?_)
      refine tx ?_
      refine r_run (a_buildSlice0 5 Tryd.underlying95 sz5) rfl rfl ⟨rfl, trivial⟩ ?_
      refine mP rfl rfl ?_
      refine r_run (a_append 7 Tryd.underlying95 eo5 (src_sl) (by simp only [maxLen]; omega) (by omega) rfl rfl) rfl rfl ⟨rfl, rfl, trivial⟩ ?_
      refine r_pure (a_assign (r := .row _)) rfl rfl ?_
      refine arun_nil ?_
      refine awp_ret ?_
      refine fT (fun _ => 7) (.tmp _ _ _ _ rfl .nil) ?_ ?_
      · exact rfl
      · exact ⟨⟨rfl, rfl⟩, trivial⟩
  · refine awp_seq (awp_seq ?_)
    refine tx ?_
    refine mP rfl rfl ?_
    refine r_pure (a_seqS Tryd.underlying95 (by omega)) rfl rfl ?_
    refine arun_nil ?_
    refine thn_n ?_
    refine awp_cond _ rfl (fun h => ?_) (fun h => ?_)
    · cases h
    · refine awp_skip (awp_seq ?_)
      refine tx ?_
      refine r_run (a_buildSlice0 5 Tryd.underlying95 sz5) rfl rfl ⟨rfl, trivial⟩ ?_
      refine mP rfl rfl ?_
      refine r_run (a_append 7 Tryd.underlying95 eo5 (src_sl) (by simp only [maxLen]; omega) (by omega) (show _ = n by omega) rfl) rfl rfl ⟨rfl, rfl, trivial⟩ ?_
      refine r_pure (a_assign (r := .row _)) rfl rfl ?_
      refine arun_nil ?_
      refine awp_ret ?_
      refine fT (fun _ => 7) (.tmp _ _ _ _ rfl .nil) ?_ ?_
      · exact rfl
      · exact ⟨⟨rfl, rfl⟩, trivial⟩
theorem pq_push (l : List PQ) (i : Nat) (p : PQ) (h : l[i]? = some p) : (l.take i).flatMap PQ.pv ++ [.v (.int .u32 p.a), .v (.int .u32 p.b), .sl p.xs.length 1 (bs p.xs)] = (l.take (i + 1)).flatMap PQ.pv := by
  obtain ⟨h1, h2⟩ := List.getElem?_eq_some_iff.1 h
  rw [List.take_succ_eq_append_getElem h1, h2, List.flatMap_append]
  simp [PQ.pv]
theorem st_push (l : List ST) (i : Nat) (s : ST) (h : l[i]? = some s) : (l.take i).flatMap ST.pv ++ s.pv = (l.take (i + 1)).flatMap ST.pv := by
  obtain ⟨h1, h2⟩ := List.getElem?_eq_some_iff.1 h
  rw [List.take_succ_eq_append_getElem h1, h2, List.flatMap_append]
  simp
set_option maxHeartbeats 8000000 in
theorem tcopy_s (l : List ST) (ok : ∀ s ∈ l, s.OK) (hn : l.length ≤ 1048576) : Fn Tryd.prog 25 [.p (.sl l.length 41 (l.flatMap ST.pv))] (.row 0) [(0, .row 51 41 l.length (l.flatMap ST.pv))] := by
  refine fn_intro Tryd.func25 rfl (Nat.le_of_ble_eq_true rfl) fun w0 A => ?_
  refine awp_seq ?_
  refine tx ?_
  refine aP rfl rfl ?_
  refine arun_nil ?_
  refine awp_seq ?_
  refine tx ?_
  refine mP rfl rfl ?_
  refine r_pure (a_lenS Tryd.underlying52) rfl rfl ?_
  refine r_run (a_make0 11 Tryd.underlying52 eo51 (by omega) (by omega) (by simp only [maxLen]; omega)) rfl rfl ⟨rfl, trivial⟩ ?_
  refine r_pure (a_assign (r := .row _)) rfl rfl ?_
  refine arun_nil ?_
  refine awp_seq (awp_seq ?_)
  refine tx ?_
  refine mP rfl rfl ?_
  refine r_pure (a_lenS Tryd.underlying52) rfl rfl ?_
  refine mP rfl rfl ?_
  refine arun_nil ?_
  refine awp_block ?_
  refine awp_loopR (fun m st => ∃ i : Nat, m + i = l.length ∧ st = St.of [(3, .row 100), (12, .p (.sl l.length 41 (l.flatMap ST.pv))), (13, .p (.v (.int .i64 l.length))), (14, .p (.v (.int .i64 i)))] [(100, .row 51 41 i ((l.take i).flatMap ST.pv))]) l.length ?_ ?_
  · refine ⟨_, re_of (fun _ => 11) _ _ ?_ ?_ rfl, 0, by omega, rfl⟩
    · (repeat (first | exact trivial | (refine ⟨⟨(by first | rfl | (simp; done) | (simp; omega)), rfl⟩, ?_⟩)))
    · exact ⟨⟨rfl, rfl⟩, trivial⟩
  rintro m st ⟨i, hi, rfl⟩
  refine awp_seq ?_
  refine tx ?_
  refine r_pure a_lss rfl rfl ?_
  refine arun_nil ?_
  refine awp_seq ?_
  refine awp_cond _ rfl (fun h => ?_) (fun h => ?_)
  · have hlt : i < l.length := by simp at h; omega
    clear h
    obtain ⟨s, hs⟩ : ∃ s, l[i]? = some s := ⟨l[i], List.getElem?_eq_getElem hlt⟩
    have hch := chunk_at (f := ST.pv) (k := 41) (fun _ => rfl) hs
    have hle := chunk_le (f := ST.pv) (k := 41) (fun _ => rfl) hlt
    obtain ⟨_, _, _, _, hq, hqx⟩ := ok s (List.mem_of_getElem? hs)
    have hpush := st_push l i s hs
    have hil : ((l.take i).flatMap ST.pv).length = i * 41 := by rw [chunk_len (k := 41) (fun _ => rfl), List.length_take, Nat.min_eq_left (by omega)]
    generalize hL : l.flatMap ST.pv = L at *
    generalize (l.take i).flatMap ST.pv = T at *
    obtain ⟨key, ep, a, b, c, hh, q⟩ := s
    dsimp only at hq hqx
    refine awp_skip (awp_seq (awp_block (awp_seq ?_)))
    refine tx ?_
    refine r_pure (a_indexAddrS Tryd.underlying52 sz51 (by omega) (by omega) rfl) rfl rfl ?_
    refine r_pure (a_loadNp Tryd.underlying51 rfl sz51 (by first | omega | (simp; done) | (simp; omega)) (hch)) rfl rfl ?_
    refine r_run (a_alloc 5 zr51 rfl) rfl rfl ⟨rfl, trivial⟩ ?_
    refine r_run (a_storeAll (Y := .agg (stC key ep a b c hh q.length (q.flatMap PQ.pv))) sz51 rfl rfl (Nat.eq_of_beq_eq_true rfl)) rfl rfl ⟨rfl, trivial⟩ ?_
    refine arun_nil ?_
    refine awp_seq ?_
    refine tx ?_
    refine fA fi51_4 rfl rfl ?_
    refine l1 Tryd.underlying49 rfl rfl rfl ⟨rfl, trivial⟩ ?_
    refine r_pure (a_lenS Tryd.underlying49) rfl rfl ?_
    refine r_run (a_make0 21 Tryd.underlying49 eo99 (by omega) (by omega) (by simp only [maxLen]; omega)) rfl rfl ⟨rfl, trivial⟩ ?_
    refine r_pure (a_assign (r := .row _)) rfl rfl ?_
    refine arun_nil ?_
    refine awp_seq (awp_seq ?_)
    refine tx ?_
    refine fA fi51_4 rfl rfl ?_
    refine l1 Tryd.underlying49 rfl rfl rfl ⟨rfl, trivial⟩ ?_
    refine r_pure (a_lenS Tryd.underlying49) rfl rfl ?_
    refine mP rfl rfl ?_
    refine arun_nil ?_
    refine awp_block ?_
    refine awp_loopR (fun m' st => ∃ j : Nat, m' + j = q.length ∧ st = St.of [(3, .row 100), (5, .ref 5 0), (6, .row 101), (12, .p (.sl l.length 41 L)), (13, .p (.v (.int .i64 l.length))), (14, .p (.v (.int .i64 i))), (23, .p (.sl q.length 3 (q.flatMap PQ.pv))), (24, .p (.v (.int .i64 q.length))), (25, .p (.v (.int .i64 j)))] [(5, .box 51 (stC key ep a b c hh q.length (q.flatMap PQ.pv))), (100, .row 51 41 i T), (101, .row 99 3 j ((q.take j).flatMap PQ.pv))]) q.length ?_ ?_
    · refine ⟨_, re_of (fun o => bif Nat.beq o 101 then 21 else o) _ _ ?_ ?_ rfl, 0, by omega, rfl⟩
      · (repeat (first | exact trivial | (refine ⟨⟨(by first | rfl | (simp; done) | (simp; omega)), rfl⟩, ?_⟩)))
      · exact ⟨⟨rfl, rfl⟩, ⟨rfl, rfl⟩, ⟨rfl, rfl⟩, trivial⟩
    rintro m' st ⟨j, hj, rfl⟩
    refine awp_seq ?_
    refine tx ?_
    refine r_pure a_lss rfl rfl ?_
    refine arun_nil ?_
    refine awp_seq ?_
    refine awp_cond _ rfl (fun h => ?_) (fun h => ?_)
    · have hlj : j < q.length := by simp at h; omega
      clear h
      obtain ⟨p, hp⟩ : ∃ p, q[j]? = some p := ⟨q[j], List.getElem?_eq_getElem hlj⟩
      have hch2 := chunk_at (f := PQ.pv) (k := 3) (fun _ => rfl) hp
      have hle2 := chunk_le (f := PQ.pv) (k := 3) (fun _ => rfl) hlj
      have hC := bclone_s p.xs.length p.xs rfl (by have := hqx p (List.mem_of_getElem? hp); omega)
      have hpp := pq_push q j p hp
      have hjl : ((q.take j).flatMap PQ.pv).length = j * 3 := by rw [chunk_len (k := 3) (fun _ => rfl), List.length_take, Nat.min_eq_left (by omega)]
      generalize hQ : q.flatMap PQ.pv = Q at *
      generalize (q.take j).flatMap PQ.pv = V at *
      obtain ⟨pa, pb, xs⟩ := p
      dsimp only at hC hpp
      refine awp_skip (awp_seq (awp_block (awp_seq ?_)))
      refine tx ?_
      refine r_pure (a_indexAddrS Tryd.underlying49 sz99 (by omega) (by omega) rfl) rfl rfl ?_
      refine r_pure (a_loadNp Tryd.underlying99 rfl sz99 (by first | omega | (simp; done) | (simp; omega)) (hch2)) rfl rfl ?_
      refine r_run (a_alloc 8 zr99 rfl) rfl rfl ⟨rfl, trivial⟩ ?_
      refine r_run (a_storeAll (Y := .agg [.p (.v (.int .u32 pa)), .p (.v (.int .u32 pb)), .p (.sl xs.length 1 (bs xs))]) sz99 rfl rfl (Nat.eq_of_beq_eq_true rfl)) rfl rfl ⟨rfl, trivial⟩ ?_
      refine arun_nil ?_
      refine awp_seq ?_
      refine tx ?_
      refine fA fi99_2 rfl rfl ?_
      refine l1 Tryd.underlying95 rfl rfl rfl ⟨rfl, trivial⟩ ?_
      refine r_callS (fun _ => 31) (hC) rfl rfl Tryd.func54 rfl rfl (by first | rfl | simp [AV.okInL, AV.okIn, okInL_map]) rfl rfl rfl (by first | exact trivial | exact ⟨rfl, trivial⟩ | exact ⟨rfl, rfl, trivial⟩) rfl rfl rfl ?_
      refine fA fi99_2 rfl rfl ?_
      refine r_run (a_store (Y := .row _) sz95 rfl (by first | exact Nat.eq_of_beq_eq_true rfl | (simp only [AV.cells, List.length_map]; first | assumption | omega)) (by first | exact Nat.le_of_ble_eq_true rfl | omega | (simp only [AV.cells, List.length_map]; omega)) (by first | (simp only [setR, AV.cells, List.take_succ_cons, List.take_zero, List.drop_succ_cons, List.drop_zero, List.drop_nil, List.take_nil, List.nil_append, List.cons_append, List.append_nil, List.length_cons, List.length_nil, Nat.reduceAdd, Nat.zero_add, Nat.add_zero]; rfl) | rfl)) rfl rfl ⟨rfl, trivial⟩ ?_
      refine arun_nil ?_
      refine thn_reO (reo_fzR (cs := bs xs) 31 rfl) ?_
      skip
      refine tx ?_
      refine r_pure (a_move (r := .row _)) rfl rfl ?_
      refine lN Tryd.underlying99 rfl sz99 rfl rfl ⟨rfl, trivial⟩ ?_
      refine r_run (a_buildSlice 35 Tryd.underlying49 sz99 zc99 (Nat.le_of_ble_eq_true rfl) (Nat.le_of_ble_eq_true rfl) rfl rfl rfl rfl (Nat.le_of_ble_eq_true rfl)) rfl rfl ⟨rfl, trivial⟩ ?_
      refine r_run (a_append 36 Tryd.underlying49 eo99 (src_row) (by simp only [maxLen]; omega) (by omega) rfl rfl) rfl rfl ⟨rfl, rfl, rfl, trivial⟩ ?_
      refine r_pure (a_assign (r := .row _)) rfl rfl ?_
      refine arun_nil ?_
      refine inb_n (thn_n ?_)
      refine tx ?_
      refine r_pure (a_add (by first | exact IntWalk.i64_in _ (by omega) | rfl)) rfl rfl ?_
      refine mP rfl rfl ?_
      refine arun_nil ?_
      refine thn_n ?_
      refine ⟨m' - 1, by omega, _, re_of (fun o => bif Nat.beq o 101 then 36 else o) _ _ ?_ ?_ rfl, j + 1, by omega, rfl⟩
      · (repeat (first | exact trivial | (refine ⟨⟨(by first | rfl | (simp; done) | (simp; omega)), rfl⟩, ?_⟩)))
      · exact ⟨⟨rfl, rfl⟩, ⟨rfl, rfl⟩, ⟨by rw [← hpp]; rfl, rfl⟩, trivial⟩
    have hge : j = q.length := by simp at h; omega
    clear h
    subst hge
    rw [List.take_length]
    refine awp_exit (awp_seq ?_)
    refine tx ?_
    refine r_pure (a_move (r := .row _)) rfl rfl ?_
    refine fA fi51_4 rfl rfl ?_
    refine r_run (a_store (Y := .row _) sz49 rfl (by first | exact Nat.eq_of_beq_eq_true rfl | (simp only [AV.cells, List.length_map]; first | assumption | omega)) (by first | exact Nat.le_of_ble_eq_true rfl | omega | (simp only [AV.cells, List.length_map]; omega)) (by first | (simp only [setR, AV.cells, List.take_succ_cons, List.take_zero, List.drop_succ_cons, List.drop_zero, List.drop_nil, List.take_nil, List.nil_append, List.cons_append, List.append_nil, List.length_cons, List.length_nil, Nat.reduceAdd, Nat.zero_add, Nat.add_zero]; rfl) | rfl)) rfl rfl ⟨rfl, trivial⟩ ?_
    refine arun_nil ?_
    refine thn_reO (reo_fzR (cs := q.flatMap PQ.pv) 101 rfl) ?_
    skip
    refine tx ?_
    refine r_pure (a_move (r := .row _)) rfl rfl ?_
    refine lN Tryd.underlying51 rfl sz51 rfl rfl ⟨rfl, trivial⟩ ?_
    refine r_run (a_buildSlice 42 Tryd.underlying52 sz51 zc51 (Nat.le_of_ble_eq_true rfl) (Nat.le_of_ble_eq_true rfl) rfl rfl rfl rfl (Nat.le_of_ble_eq_true rfl)) rfl rfl ⟨rfl, trivial⟩ ?_
    refine r_run (a_append 43 Tryd.underlying52 eo51 (src_row) (by simp only [maxLen]; omega) (by omega) rfl rfl) rfl rfl ⟨rfl, rfl, rfl, trivial⟩ ?_
    refine r_pure (a_assign (r := .row _)) rfl rfl ?_
    refine arun_nil ?_
    refine inb_n (thn_n ?_)
    refine tx ?_
    refine r_pure (a_add (by first | exact IntWalk.i64_in _ (by omega) | rfl)) rfl rfl ?_
    refine mP rfl rfl ?_
    refine arun_nil ?_
    refine thn_n ?_
    refine ⟨m - 1, by omega, _, re_of (fun o => 43) _ _ ?_ ?_ rfl, i + 1, by omega, rfl⟩
    · (repeat (first | exact trivial | (refine ⟨⟨(by first | rfl | (simp; done) | (simp; omega)), rfl⟩, ?_⟩)))
    · exact ⟨⟨by rw [← hpush]; rfl, rfl⟩, trivial⟩
  have hge : i = l.length := by simp at h; omega
  clear h
  subst hge
  rw [List.take_length]
  refine awp_exit (awp_seq ?_)
  refine tx ?_
  refine r_pure (a_move (r := .row _)) rfl rfl ?_
  refine r_pure (a_assign (r := .row _)) rfl rfl ?_
  refine arun_nil ?_
  refine awp_ret ?_
  refine fT (fun _ => 100) (.tmp _ _ _ _ rfl .nil) ?_ ?_
  · exact rfl
  · exact ⟨⟨rfl, rfl⟩, trivial⟩
theorem law_TableChecks (x0 : List PV) (ty0 : Ty Tryd.prog 10 51 x0) (hb0 : PV.bdL 1048576 x0) (x1 : List PV) (ty1 : Ty Tryd.prog 10 52 x1) (hb1 : PV.bdL 1048576 x1) :
    Fn Tryd.prog 6 [argAV true x0, argAV false x1] (.p (.v (.bool true))) [] := by
  obtain ⟨s, ok, rfl⟩ := ST.of_ty ty0 hb0
  obtain ⟨l, okl, hn, rfl⟩ := ST.list_ty ty1 hb1
  have p1 := tright_s s ok
  have p2 := tcheck_s l okl hn
  have p3 := tcopy_s l okl hn
  have q1 := refState_s s ok
  have q2 := refStates_s l okl hn
  have p4 := sameStates_s l okl hn
  show Fn Tryd.prog _ [.agg s.cells, .p (.sl l.length 41 (l.flatMap ST.pv))] _ _
  generalize stE s = e1 at *
  generalize stsE l = e2 at *
  generalize l.flatMap ST.pv = L at *
  generalize l.length = N at *
  refine fn_intro Tryd.func6 rfl (Nat.le_of_ble_eq_true rfl) fun w0 A => ?_
  refine awp_seq ?_
  refine tx ?_
  refine r_run (a_box (X := .agg _) 2 rfl) rfl rfl ⟨rfl, trivial⟩ ?_
  refine aP rfl rfl ?_
  refine arun_nil ?_
  refine awp_seq ?_
  refine tx ?_
  refine r_run (a_loadN Tryd.underlying51 rfl sz51 (by first | exact Nat.le_of_ble_eq_true rfl | omega | (simp only [AV.cells, List.length_map]; omega)) (show _ = s.cells from rfl)) rfl rfl ⟨rfl, trivial⟩ ?_
  refine r_callS (fun n => 11 + 1000 * n) (p1) rfl rfl Tryd.func23 rfl rfl (by first | rfl | simp [AV.okInL, AV.okIn, okInL_map]) rfl rfl rfl (by first | exact trivial | exact ⟨rfl, trivial⟩ | exact ⟨rfl, rfl, trivial⟩) rfl rfl rfl ?_
  refine mP rfl rfl ?_
  refine r_callS (fun n => 13 + 1000 * n) (p2) rfl rfl Tryd.func24 rfl rfl (by first | rfl | simp [AV.okInL, AV.okIn, okInL_map]) rfl rfl rfl (by first | exact trivial | exact ⟨rfl, trivial⟩ | exact ⟨rfl, rfl, trivial⟩) rfl rfl rfl ?_
  refine aP rfl rfl ?_
  refine aP rfl rfl ?_
  refine arun_nil ?_
  refine awp_seq ?_
  refine tx ?_
  refine mP rfl rfl ?_
  refine r_callS (fun n => 15 + 1000 * n) (p3) rfl rfl Tryd.func25 rfl rfl (by first | rfl | simp [AV.okInL, AV.okIn, okInL_map]) rfl rfl rfl (by first | exact trivial | exact ⟨rfl, trivial⟩ | exact ⟨rfl, rfl, trivial⟩) rfl rfl rfl ?_
  refine r_pure (a_assign (r := .row _)) rfl rfl ?_
  refine arun_nil ?_
  refine awp_seq ?_
  refine tx ?_
  refine r_run (a_loadN Tryd.underlying51 rfl sz51 (by first | exact Nat.le_of_ble_eq_true rfl | omega | (simp only [AV.cells, List.length_map]; omega)) (show _ = s.cells from rfl)) rfl rfl ⟨rfl, trivial⟩ ?_
  refine r_callS (fun n => 17 + 1000 * n) (q1) rfl rfl Tryd.func26 rfl rfl (by first | rfl | simp [AV.okInL, AV.okIn, okInL_map]) rfl rfl rfl (by first | exact trivial | exact ⟨rfl, trivial⟩ | exact ⟨rfl, rfl, trivial⟩) rfl rfl rfl ?_
  refine mP rfl rfl ?_
  refine r_callS (fun n => 19 + 1000 * n) (q2) rfl rfl Tryd.func27 rfl rfl (by first | rfl | simp [AV.okInL, AV.okIn, okInL_map]) rfl rfl rfl (by first | exact trivial | exact ⟨rfl, trivial⟩ | exact ⟨rfl, rfl, trivial⟩) rfl rfl rfl ?_
  refine aP rfl rfl ?_
  refine aP rfl rfl ?_
  refine arun_nil ?_
  refine awp_seq ?_
  refine tx ?_
  refine mP rfl rfl ?_
  refine mP rfl rfl ?_
  refine r_pure a_eqlT rfl rfl ?_
  refine mP rfl rfl ?_
  refine mP rfl rfl ?_
  refine mP rfl rfl ?_
  refine r_pure a_eqlT rfl rfl ?_
  refine r_pure a_pickT rfl rfl ?_
  refine mP rfl rfl ?_
  refine r_pure (a_move (r := .row _)) rfl rfl ?_
  refine mP rfl rfl ?_
  refine r_callV (fun n => 31 + 1000 * n) (p4) rfl rfl Tryd.func28 rfl rfl (by first | rfl | simp [AV.noSl, AV.noSlL, AObj.noSl, PV.isV, bs_noSl]) (by first | rfl | simp [AV.noSl, AV.noSlL, AObj.noSl, PV.isV, bs_noSl]) rfl rfl rfl (by first | exact trivial | exact ⟨rfl, trivial⟩ | exact ⟨rfl, rfl, trivial⟩) rfl rfl rfl ?_
  refine r_pure a_pickT rfl rfl ?_
  refine aP rfl rfl ?_
  refine arun_nil ?_
  refine awp_ret ?_
  refine fT (fun o => o) (.tmp _ _ _ _ rfl .nil) ?_ ?_
  · exact rfl
  · exact trivial
end Go.Proofs.YtcjnecmgificmaaDoor
