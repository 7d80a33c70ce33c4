/- The law's sameStates, over data: a state is the same as itself. -/
import Derived.Test.YtcjnecmgificmaaDoorTy1
import Derived.Test.YtcjnecmgificmaaDoorSm
--%T
namespace Go.Proofs.YtcjnecmgificmaaDoor
open Go.RowKit Go.Sort
set_option linter.unusedVariables false
set_option linter.unusedSimpArgs false
set_option maxRecDepth 100000

def PQ.cells (p : PQ) : List AV := [.p (.v (.int .u32 p.a)), .p (.v (.int .u32 p.b)), .p (.sl p.xs.length 1 (bs p.xs))]
theorem samePk_s (p : PQ) : Fn Tryd.prog 62 [.agg p.cells, .agg p.cells] (.p (.v (.bool true))) [] := by
  obtain ⟨a, b, xs⟩ := p
  have hS := same_eq xs.length xs.length xs
  show Fn Tryd.prog _ [.agg [.p (.v (.int .u32 a)), .p (.v (.int .u32 b)), .p (.sl xs.length 1 (bs xs))], .agg [.p (.v (.int .u32 a)), .p (.v (.int .u32 b)), .p (.sl xs.length 1 (bs xs))]] _ _
  generalize xs.length = n at *
  refine fn_intro Tryd.func62 rfl (Nat.le_of_ble_eq_true rfl) fun w0 A => ?_
  refine awp_seq ?_
  refine tx ?_
  refine r_run (a_box (X := .agg _) 2 rfl) rfl rfl ⟨rfl, trivial⟩ ?_
  refine r_run (a_box (X := .agg _) 3 rfl) rfl rfl ⟨rfl, trivial⟩ ?_
  refine aP rfl rfl ?_
  refine arun_nil ?_
  refine awp_seq ?_
  refine tx ?_
  refine fA fi99_0 rfl rfl ?_
  refine l1 Tryd.underlying25 rfl rfl rfl ⟨rfl, trivial⟩ ?_
  refine fA fi99_0 rfl rfl ?_
  refine l1 Tryd.underlying25 rfl rfl rfl ⟨rfl, trivial⟩ ?_
  refine r_pure a_eqlT rfl rfl ?_
  refine mP rfl rfl ?_
  refine fA fi99_1 rfl rfl ?_
  refine l1 Tryd.underlying25 rfl rfl rfl ⟨rfl, trivial⟩ ?_
  refine fA fi99_1 rfl rfl ?_
  refine l1 Tryd.underlying25 rfl rfl rfl ⟨rfl, trivial⟩ ?_
  refine r_pure a_eqlT rfl rfl ?_
  refine r_pure a_pickT rfl rfl ?_
  refine mP rfl rfl ?_
  refine fA fi99_2 rfl rfl ?_
  refine l1 Tryd.underlying95 rfl rfl rfl ⟨rfl, trivial⟩ ?_
  refine fA fi99_2 rfl rfl ?_
  refine l1 Tryd.underlying95 rfl rfl rfl ⟨rfl, trivial⟩ ?_
  refine r_callV (fun n => 22 + 1000 * n) (hS) rfl rfl Tryd.func89 rfl rfl (by first | rfl | simp [AV.noSl, AV.noSlL, AObj.noSl, PV.isV, bs_noSl]) (by first | rfl | simp [AV.noSl, AV.noSlL, AObj.noSl, PV.isV, bs_noSl]) rfl rfl rfl (by first | exact trivial | exact ⟨rfl, trivial⟩ | exact ⟨rfl, rfl, trivial⟩) rfl rfl rfl ?_
  refine r_pure a_pickT rfl rfl ?_
  refine aP rfl rfl ?_
  refine arun_nil ?_
  refine awp_ret ?_
  refine fT (fun o => o) (.tmp _ _ _ _ rfl .nil) ?_ ?_
  · exact rfl
  · exact trivial
theorem samePks_s (l : List PQ) (hn : l.length ≤ 1048576) : Fn Tryd.prog 61 [.p (.sl l.length 3 (l.flatMap PQ.pv)), .p (.sl l.length 3 (l.flatMap PQ.pv)), .fn 62 []] (.p (.v (.bool true))) [] := by
  refine fn_intro Tryd.func61 rfl (Nat.le_of_ble_eq_true rfl) fun w0 A => ?_
  refine awp_seq ?_
  refine tx ?_
  refine aP rfl rfl ?_
  refine arun_nil ?_
  refine awp_seq (awp_seq ?_)
  refine tx ?_
  refine mP rfl rfl ?_
  refine r_pure (a_lenS Tryd.underlying49) rfl rfl ?_
  refine mP rfl rfl ?_
  refine r_pure (a_lenS Tryd.underlying49) rfl rfl ?_
  refine r_pure a_neqT rfl rfl ?_
  refine arun_nil ?_
  refine thn_n ?_
  refine awp_cond _ rfl (fun h => ?_) (fun h => ?_)
  · simp at h
  refine awp_skip (awp_seq (awp_seq ?_))
  refine tx ?_
  refine mP rfl rfl ?_
  refine r_pure (a_lenS Tryd.underlying49) rfl rfl ?_
  refine mP rfl rfl ?_
  refine arun_nil ?_
  refine awp_block ?_
  refine awp_loopR (fun m st => ∃ i : Nat, m + i = l.length ∧ st = St.of [(1, .p (.sl l.length 3 (l.flatMap PQ.pv))), (2, .fn 62 []), (15, .p (.sl l.length 3 (l.flatMap PQ.pv))), (16, .p (.v (.int .i64 l.length))), (17, .p (.v (.int .i64 i)))] []) l.length ?_ ?_
  · refine ⟨_, re_of id _ _ ?_ ?_ rfl, 0, by omega, rfl⟩
    · (repeat (first | exact trivial | (refine ⟨⟨(by first | rfl | (simp; done) | (simp; omega)), rfl⟩, ?_⟩)))
    · exact trivial
  rintro m st ⟨i, hi, rfl⟩
  refine awp_seq ?_
  refine tx ?_
  refine r_pure a_lss rfl rfl ?_
  refine arun_nil ?_
  refine awp_seq ?_
  refine awp_cond _ rfl (fun h => ?_) (fun h => ?_)
  · have hlt : i < l.length := by simp at h; omega
    clear h
    obtain ⟨s, hs⟩ : ∃ s, l[i]? = some s := ⟨l[i], List.getElem?_eq_getElem hlt⟩
    have hch := chunk_at (f := PQ.pv) (k := 3) (fun _ => rfl) hs
    have hle := chunk_le (f := PQ.pv) (k := 3) (fun _ => rfl) hlt
    have hC := samePk_s s
    generalize hL : l.flatMap PQ.pv = L at *
    refine awp_skip (awp_seq (awp_block (awp_seq ?_)))
    refine tx ?_
    refine mP rfl rfl ?_
    refine r_pure (a_indexAddrS Tryd.underlying49 sz99 (by omega) (by omega) rfl) rfl rfl ?_
    refine r_pure (a_loadNp Tryd.underlying99 rfl sz99 (by first | omega | (simp; done) | (simp; omega)) (hch)) rfl rfl ?_
    refine r_run (a_alloc 8 zr99 rfl) rfl rfl ⟨rfl, trivial⟩ ?_
    refine aP rfl rfl ?_
    refine r_run (a_storeAll (Y := .agg s.cells) sz99 rfl rfl (Nat.eq_of_beq_eq_true rfl)) rfl rfl ⟨rfl, trivial⟩ ?_
    refine arun_nil ?_
    refine awp_seq ?_
    refine tx ?_
    refine mP rfl rfl ?_
    refine mP rfl rfl ?_
    refine r_pure (a_indexAddrS Tryd.underlying49 sz99 (by omega) (by omega) rfl) rfl rfl ?_
    refine r_pure (a_loadNp Tryd.underlying99 rfl sz99 (by first | omega | (simp; done) | (simp; omega)) (hch)) rfl rfl ?_
    refine r_run (a_alloc 9 zr99 rfl) rfl rfl ⟨rfl, trivial⟩ ?_
    refine r_run (a_storeAll (Y := .agg s.cells) sz99 rfl rfl (Nat.eq_of_beq_eq_true rfl)) rfl rfl ⟨rfl, trivial⟩ ?_
    refine arun_nil ?_
    refine awp_seq ?_
    refine tx ?_
    refine r_pure (a_move (r := .fn _ _)) rfl rfl ?_
    refine r_run (a_loadN Tryd.underlying99 rfl sz99 (by first | exact Nat.le_of_ble_eq_true rfl | omega | (simp only [AV.cells, List.length_map]; omega)) (show _ = s.cells from rfl)) rfl rfl ⟨rfl, trivial⟩ ?_
    refine r_run (a_loadN Tryd.underlying99 rfl sz99 (by first | exact Nat.le_of_ble_eq_true rfl | omega | (simp only [AV.cells, List.length_map]; omega)) (show _ = s.cells from rfl)) rfl rfl ⟨rfl, trivial⟩ ?_
    refine r_callS (fun n => 29 + 1000 * n) (hC) rfl rfl Tryd.func62 rfl rfl (by first | rfl | simp [AV.okInL, AV.okIn, okInL_map]) rfl rfl rfl (by first | exact trivial | exact ⟨rfl, trivial⟩ | exact ⟨rfl, rfl, trivial⟩) rfl rfl rfl ?_
    refine r_pure a_not rfl rfl ?_
    refine arun_nil ?_
    refine thn_n ?_
    refine awp_cond _ rfl (fun h => ?_) (fun h => ?_)
    · cases h
    refine awp_skip (inb_n (thn_n ?_))
    refine tx ?_
    refine r_pure (a_add (by first | exact IntWalk.i64_in _ (by omega) | rfl)) rfl rfl ?_
    refine mP rfl rfl ?_
    refine arun_nil ?_
    refine thn_n ?_
    refine ⟨m - 1, by omega, _, re_of id _ _ ?_ ?_ rfl, i + 1, by omega, rfl⟩
    · (repeat (first | exact trivial | (refine ⟨⟨(by first | rfl | (simp; done) | (simp; omega)), rfl⟩, ?_⟩)))
    · exact trivial
  refine awp_exit (awp_seq ?_)
  refine tx ?_
  refine aP rfl rfl ?_
  refine arun_nil ?_
  refine awp_ret ?_
  refine fT (fun o => o) (.tmp _ _ _ _ rfl .nil) ?_ ?_
  · exact rfl
  · exact trivial
theorem sameSt_s (s : ST) (hq : s.q.length ≤ 1048576) : Fn Tryd.prog 60 [.agg s.cells, .agg s.cells] (.p (.v (.bool true))) [] := by
  have hQ := samePks_s s.q hq
  obtain ⟨key, ep, a, b, c, hh, q⟩ := s
  dsimp only at hQ hq
  show Fn Tryd.prog _ [.agg (stC key ep a b c hh q.length (q.flatMap PQ.pv)), .agg (stC key ep a b c hh q.length (q.flatMap PQ.pv))] _ _
  generalize q.flatMap PQ.pv = L at *
  generalize q.length = N at *
  refine fn_intro Tryd.func60 rfl (Nat.le_of_ble_eq_true rfl) fun w0 A => ?_
  refine awp_seq ?_
  refine tx ?_
  refine r_run (a_box (X := .agg _) 2 rfl) rfl rfl ⟨rfl, trivial⟩ ?_
  refine r_run (a_box (X := .agg _) 3 rfl) rfl rfl ⟨rfl, trivial⟩ ?_
  refine aP rfl rfl ?_
  refine arun_nil ?_
  refine awp_seq ?_
  refine tx ?_
  refine fA fi51_0 rfl rfl ?_
  refine l1 Tryd.underlying9 rfl rfl rfl ⟨rfl, trivial⟩ ?_
  refine fA fi51_0 rfl rfl ?_
  refine l1 Tryd.underlying9 rfl rfl rfl ⟨rfl, trivial⟩ ?_
  refine r_pure a_seqlT rfl rfl ?_
  refine mP rfl rfl ?_
  refine fA fi51_1 rfl rfl ?_
  refine l1 Tryd.underlying9 rfl rfl rfl ⟨rfl, trivial⟩ ?_
  refine fA fi51_1 rfl rfl ?_
  refine l1 Tryd.underlying9 rfl rfl rfl ⟨rfl, trivial⟩ ?_
  refine r_pure a_seqlT rfl rfl ?_
  refine r_pure a_pickT rfl rfl ?_
  refine mP rfl rfl ?_
  refine fA fi51_2 rfl rfl ?_
  refine r_run (a_loadN Tryd.underlying46 rfl sz46 (by first | exact Nat.le_of_ble_eq_true rfl | omega | (simp only [AV.cells, List.length_map]; omega)) (show _ = slots3 a b c from rfl)) rfl rfl ⟨rfl, trivial⟩ ?_
  refine fA fi51_2 rfl rfl ?_
  refine r_run (a_loadN Tryd.underlying46 rfl sz46 (by first | exact Nat.le_of_ble_eq_true rfl | omega | (simp only [AV.cells, List.length_map]; omega)) (show _ = slots3 a b c from rfl)) rfl rfl ⟨rfl, trivial⟩ ?_
  refine r_pure (a_steqT Tryd.underlying46 rfl (by kernel_rfl) (by kernel_rfl)) rfl rfl ?_
  refine r_pure a_pickT rfl rfl ?_
  refine mP rfl rfl ?_
  refine fA fi51_3 rfl rfl ?_
  refine r_run (a_loadN Tryd.underlying48 rfl sz48 (by first | exact Nat.le_of_ble_eq_true rfl | omega | (simp only [AV.cells, List.length_map]; omega)) (show _ = hh.cells from rfl)) rfl rfl ⟨rfl, trivial⟩ ?_
  refine fA fi51_3 rfl rfl ?_
  refine r_run (a_loadN Tryd.underlying48 rfl sz48 (by first | exact Nat.le_of_ble_eq_true rfl | omega | (simp only [AV.cells, List.length_map]; omega)) (show _ = hh.cells from rfl)) rfl rfl ⟨rfl, trivial⟩ ?_
  refine r_pure (a_steqT Tryd.underlying48 rfl (by kernel_rfl) (by kernel_rfl)) rfl rfl ?_
  refine r_pure a_pickT rfl rfl ?_
  refine mP rfl rfl ?_
  refine fA fi51_4 rfl rfl ?_
  refine l1 Tryd.underlying49 rfl rfl rfl ⟨rfl, trivial⟩ ?_
  refine fA fi51_4 rfl rfl ?_
  refine l1 Tryd.underlying49 rfl rfl rfl ⟨rfl, trivial⟩ ?_
  refine r_callS (fun n => 36 + 1000 * n) (hQ) rfl rfl Tryd.func61 rfl rfl (by first | rfl | simp [AV.okInL, AV.okIn, okInL_map]) rfl rfl rfl (by first | exact trivial | exact ⟨rfl, trivial⟩ | exact ⟨rfl, rfl, trivial⟩) rfl rfl rfl ?_
  refine r_pure a_pickT rfl rfl ?_
  refine aP rfl rfl ?_
  refine arun_nil ?_
  refine awp_ret ?_
  refine fT (fun o => o) (.tmp _ _ _ _ rfl .nil) ?_ ?_
  · exact rfl
  · exact trivial
theorem sameSts_s (l : List ST) (ok : ∀ s ∈ l, s.OK) (hn : l.length ≤ 1048576) : Fn Tryd.prog 59 [.p (.sl l.length 41 (l.flatMap ST.pv)), .p (.sl l.length 41 (l.flatMap ST.pv)), .fn 60 []] (.p (.v (.bool true))) [] := by
  refine fn_intro Tryd.func59 rfl (Nat.le_of_ble_eq_true rfl) fun w0 A => ?_
  refine awp_seq ?_
  refine tx ?_
  refine aP rfl rfl ?_
  refine arun_nil ?_
  refine awp_seq (awp_seq ?_)
  refine tx ?_
  refine mP rfl rfl ?_
  refine r_pure (a_lenS Tryd.underlying52) rfl rfl ?_
  refine mP rfl rfl ?_
  refine r_pure (a_lenS Tryd.underlying52) rfl rfl ?_
  refine r_pure a_neqT rfl rfl ?_
  refine arun_nil ?_
  refine thn_n ?_
  refine awp_cond _ rfl (fun h => ?_) (fun h => ?_)
  · simp at h
  refine awp_skip (awp_seq (awp_seq ?_))
  refine tx ?_
  refine mP rfl rfl ?_
  refine r_pure (a_lenS Tryd.underlying52) rfl rfl ?_
  refine mP rfl rfl ?_
  refine arun_nil ?_
  refine awp_block ?_
  refine awp_loopR (fun m st => ∃ i : Nat, m + i = l.length ∧ st = St.of [(1, .p (.sl l.length 41 (l.flatMap ST.pv))), (2, .fn 60 []), (15, .p (.sl l.length 41 (l.flatMap ST.pv))), (16, .p (.v (.int .i64 l.length))), (17, .p (.v (.int .i64 i)))] []) l.length ?_ ?_
  · refine ⟨_, re_of id _ _ ?_ ?_ rfl, 0, by omega, rfl⟩
    · (repeat (first | exact trivial | (refine ⟨⟨(by first | rfl | (simp; done) | (simp; omega)), rfl⟩, ?_⟩)))
    · exact trivial
  rintro m st ⟨i, hi, rfl⟩
  refine awp_seq ?_
  refine tx ?_
  refine r_pure a_lss rfl rfl ?_
  refine arun_nil ?_
  refine awp_seq ?_
  refine awp_cond _ rfl (fun h => ?_) (fun h => ?_)
  · have hlt : i < l.length := by simp at h; omega
    clear h
    obtain ⟨s, hs⟩ : ∃ s, l[i]? = some s := ⟨l[i], List.getElem?_eq_getElem hlt⟩
    have hch := chunk_at (f := ST.pv) (k := 41) (fun _ => rfl) hs
    have hle := chunk_le (f := ST.pv) (k := 41) (fun _ => rfl) hlt
    have hC := sameSt_s s (ok s (List.mem_of_getElem? hs)).q
    generalize hL : l.flatMap ST.pv = L at *
    refine awp_skip (awp_seq (awp_block (awp_seq ?_)))
    refine tx ?_
    refine mP rfl rfl ?_
    refine r_pure (a_indexAddrS Tryd.underlying52 sz51 (by omega) (by omega) rfl) rfl rfl ?_
    refine r_pure (a_loadNp Tryd.underlying51 rfl sz51 (by first | omega | (simp; done) | (simp; omega)) (hch)) rfl rfl ?_
    refine r_run (a_alloc 8 zr51 rfl) rfl rfl ⟨rfl, trivial⟩ ?_
    refine aP rfl rfl ?_
    refine r_run (a_storeAll (Y := .agg s.cells) sz51 rfl rfl (Nat.eq_of_beq_eq_true rfl)) rfl rfl ⟨rfl, trivial⟩ ?_
    refine arun_nil ?_
    refine awp_seq ?_
    refine tx ?_
    refine mP rfl rfl ?_
    refine mP rfl rfl ?_
    refine r_pure (a_indexAddrS Tryd.underlying52 sz51 (by omega) (by omega) rfl) rfl rfl ?_
    refine r_pure (a_loadNp Tryd.underlying51 rfl sz51 (by first | omega | (simp; done) | (simp; omega)) (hch)) rfl rfl ?_
    refine r_run (a_alloc 9 zr51 rfl) rfl rfl ⟨rfl, trivial⟩ ?_
    refine r_run (a_storeAll (Y := .agg s.cells) sz51 rfl rfl (Nat.eq_of_beq_eq_true rfl)) rfl rfl ⟨rfl, trivial⟩ ?_
    refine arun_nil ?_
    refine awp_seq ?_
    refine tx ?_
    refine r_pure (a_move (r := .fn _ _)) rfl rfl ?_
    refine r_run (a_loadN Tryd.underlying51 rfl sz51 (by first | exact Nat.le_of_ble_eq_true rfl | omega | (simp only [AV.cells, List.length_map]; omega)) (show _ = s.cells from rfl)) rfl rfl ⟨rfl, trivial⟩ ?_
    refine r_run (a_loadN Tryd.underlying51 rfl sz51 (by first | exact Nat.le_of_ble_eq_true rfl | omega | (simp only [AV.cells, List.length_map]; omega)) (show _ = s.cells from rfl)) rfl rfl ⟨rfl, trivial⟩ ?_
    refine r_callS (fun n => 29 + 1000 * n) (hC) rfl rfl Tryd.func60 rfl rfl (by first | rfl | simp [AV.okInL, AV.okIn, okInL_map]) rfl rfl rfl (by first | exact trivial | exact ⟨rfl, trivial⟩ | exact ⟨rfl, rfl, trivial⟩) rfl rfl rfl ?_
    refine r_pure a_not rfl rfl ?_
    refine arun_nil ?_
    refine thn_n ?_
    refine awp_cond _ rfl (fun h => ?_) (fun h => ?_)
    · cases h
    refine awp_skip (inb_n (thn_n ?_))
    refine tx ?_
    refine r_pure (a_add (by first | exact IntWalk.i64_in _ (by omega) | rfl)) rfl rfl ?_
    refine mP rfl rfl ?_
    refine arun_nil ?_
    refine thn_n ?_
    refine ⟨m - 1, by omega, _, re_of id _ _ ?_ ?_ rfl, i + 1, by omega, rfl⟩
    · (repeat (first | exact trivial | (refine ⟨⟨(by first | rfl | (simp; done) | (simp; omega)), rfl⟩, ?_⟩)))
    · exact trivial
  refine awp_exit (awp_seq ?_)
  refine tx ?_
  refine aP rfl rfl ?_
  refine arun_nil ?_
  refine awp_ret ?_
  refine fT (fun o => o) (.tmp _ _ _ _ rfl .nil) ?_ ?_
  · exact rfl
  · exact trivial
theorem sameStates_s (l : List ST) (ok : ∀ s ∈ l, s.OK) (hn : l.length ≤ 1048576) : Fn Tryd.prog 28 [.p (.sl l.length 41 (l.flatMap ST.pv)), .p (.sl l.length 41 (l.flatMap ST.pv))] (.p (.v (.bool true))) [] := by
  have hC := sameSts_s l ok hn
  generalize l.flatMap ST.pv = L at *
  generalize l.length = N at *
  refine fn_intro Tryd.func28 rfl (Nat.le_of_ble_eq_true rfl) fun w0 A => ?_
  refine awp_seq ?_
  refine tx ?_
  refine aP rfl rfl ?_
  refine arun_nil ?_
  refine awp_seq ?_
  refine tx ?_
  refine mP rfl rfl ?_
  refine mP rfl rfl ?_
  refine r_callS (fun n => 7 + 1000 * n) (hC) rfl rfl Tryd.func59 rfl rfl (by first | rfl | simp [AV.okInL, AV.okIn, okInL_map]) rfl rfl rfl (by first | exact trivial | exact ⟨rfl, trivial⟩ | exact ⟨rfl, rfl, trivial⟩) rfl rfl rfl ?_
  refine aP rfl rfl ?_
  refine arun_nil ?_
  refine awp_ret ?_
  refine fT (fun o => o) (.tmp _ _ _ _ rfl .nil) ?_ ?_
  · exact rfl
  · exact trivial
end Go.Proofs.YtcjnecmgificmaaDoor
