/- The law's sameConf: a configuration is the same as itself; over data. -/
import Derived.Test.YtgpleldhddpcgaaGreatDoorSCf2
import Derived.Test.YtgpleldhddpcgaaGreatDoorSBt1
namespace Go.Proofs.YtgpleldhddpcgaaGreatDoor
open Go.RowKit Go.Sort
set_option linter.unusedVariables false
set_option linter.unusedSimpArgs false
set_option maxRecDepth 100000
theorem sameNets_s (l : List NtP) (hn : l.length ≤ 1048576) : Fn Tryz.prog 78 [.p (.sl l.length 2 (l.flatMap ntC)), .p (.sl l.length 2 (l.flatMap ntC))] (.p (.v (.bool true))) [] := by
  refine fn_intro Tryz.func78 rfl (Nat.le_of_ble_eq_true rfl) fun w0 A => ?_
  refine awp_seq ?_
  refine tx ?_
  refine aP rfl rfl ?_
  refine arun_nil ?_
  refine awp_seq (awp_seq ?_)
  refine tx ?_
  refine mP rfl rfl ?_
  refine r_pure (a_lenS Tryz.underlying47) rfl rfl ?_
  refine mP rfl rfl ?_
  refine r_pure (a_lenS Tryz.underlying47) rfl rfl ?_
  refine r_pure a_neqT rfl rfl ?_
  refine arun_nil ?_
  refine thn_n ?_
  refine awp_cond _ rfl (fun h => ?_) (fun h => ?_)
  · simp at h
  refine awp_skip (awp_seq (awp_seq ?_))
  refine tx ?_
  refine mP rfl rfl ?_
  refine r_pure (a_lenS Tryz.underlying47) rfl rfl ?_
  refine mP rfl rfl ?_
  refine arun_nil ?_
  refine awp_block ?_
  refine awp_loopR (fun m st => ∃ i : Nat, m + i = l.length ∧ st = St.of [(0, .p (.sl l.length 2 (l.flatMap ntC))), (1, .p (.sl l.length 2 (l.flatMap ntC))), (12, .p (.v (.int .i64 l.length))), (13, .p (.v (.int .i64 i)))] []) l.length ?_ ?_
  · refine ⟨_, re_of id _ _ ?_ ?_ rfl, 0, by omega, rfl⟩
    · (repeat (first | exact trivial | (refine ⟨⟨(by first | rfl | (simp; done) | (simp; omega)), rfl⟩, ?_⟩)))
    · exact trivial
  rintro m st ⟨i, hi, rfl⟩
  refine awp_seq ?_
  refine tx ?_
  refine r_pure a_lss rfl rfl ?_
  refine arun_nil ?_
  refine awp_seq ?_
  refine awp_cond _ rfl (fun h => ?_) (fun h => ?_)
  · have hlt : i < l.length := by simp at h; omega
    clear h
    obtain ⟨s, hs⟩ : ∃ s, l[i]? = some s := ⟨l[i], List.getElem?_eq_getElem hlt⟩
    have hch := chunk_at (f := ntC) (k := 2) (fun _ => rfl) hs
    have hle := chunk_le (f := ntC) (k := 2) (fun _ => rfl) hlt
    generalize hL : l.flatMap ntC = L at *
    obtain ⟨a, b⟩ := s
    refine awp_skip (awp_seq (awp_block (awp_seq ?_)))
    refine tx ?_
    refine mP rfl rfl ?_
    refine aP rfl rfl ?_
    refine arun_nil ?_
    refine awp_seq ?_
    refine awp_draw 4 (by kernel_rfl) ?_
    refine mP rfl rfl ?_
    refine mP rfl rfl ?_
    refine r_pure (a_indexAddrS Tryz.underlying47 sz52 (by omega) (by omega) rfl) rfl rfl ?_
    refine r_pure (a_loadNp Tryz.underlying52 rfl sz52 (by first | omega | (simp; done) | (simp; omega)) (hch)) rfl rfl ?_
    refine mP rfl rfl ?_
    refine mP rfl rfl ?_
    refine r_pure (a_indexAddrS Tryz.underlying47 sz52 (by omega) (by omega) rfl) rfl rfl ?_
    refine r_pure (a_loadNp Tryz.underlying52 rfl sz52 (by first | omega | (simp; done) | (simp; omega)) (hch)) rfl rfl ?_
    refine r_pure (a_stneqV Tryz.underlying52 (xs := [.int .u32 a, .int .i64 b]) (ys := [.int .u32 a, .int .i64 b]) rfl rfl (by kernel_rfl) (by kernel_rfl) (by kernel_rfl) (c := false) (by rw [eqL_refl]; rfl)) rfl rfl ?_
    refine arun_nil ⟨by kernel_rfl, ?_⟩
    refine thn_n ?_
    refine awp_cF rfl ?_
    refine awp_skip (inb_n (thn_n ?_))
    refine tx ?_
    refine r_pure (a_add (by first | exact IntWalk.i64_in _ (by omega) | rfl)) rfl rfl ?_
    refine mP rfl rfl ?_
    refine arun_nil ?_
    refine thn_n ?_
    refine ⟨m - 1, by omega, _, re_of id _ _ ?_ ?_ rfl, i + 1, by omega, rfl⟩
    · (repeat (first | exact trivial | (refine ⟨⟨(by first | rfl | (simp; done) | (simp; omega)), rfl⟩, ?_⟩)))
    · exact trivial
  refine awp_exit (awp_seq ?_)
  refine tx ?_
  refine aP rfl rfl ?_
  refine arun_nil ?_
  refine awp_ret ?_
  refine fT (fun o => o) (.tmp _ _ _ _ rfl .nil) ?_ ?_
  · exact rfl
  · exact trivial
theorem samePe_s (p : PE) (hn : p.nets.length ≤ 1048576) : Fn Tryz.prog 77 [.agg p.cells, .agg p.cells] (.p (.v (.bool true))) [] := by
  have hQ := sameNets_s p.nets hn
  obtain ⟨pk, sh, ep, al, nn⟩ := p
  dsimp only at hQ
  show Fn Tryz.prog _ [.agg [.p (.v (.string pk)), .p (.v (.string sh)), .p (.v (.string ep)), .p (.v (.int .i64 al)), .p (.sl nn.length 2 (nn.flatMap ntC))], .agg [.p (.v (.string pk)), .p (.v (.string sh)), .p (.v (.string ep)), .p (.v (.int .i64 al)), .p (.sl nn.length 2 (nn.flatMap ntC))]] _ _
  clear hn
  generalize nn.flatMap ntC = L at *
  generalize nn.length = N at *
  refine fn_intro Tryz.func77 rfl (Nat.le_of_ble_eq_true rfl) fun w0 A => ?_
  refine awp_seq ?_
  refine tx ?_
  refine r_run (a_box (X := .agg _) 2 rfl) rfl rfl ⟨rfl, trivial⟩ ?_
  refine r_run (a_box (X := .agg _) 3 rfl) rfl rfl ⟨rfl, trivial⟩ ?_
  refine aP rfl rfl ?_
  refine arun_nil ?_
  refine awp_seq ?_
  refine tx ?_
  refine fA fi49_0 rfl rfl ?_
  refine l1 Tryz.underlying9 rfl rfl rfl ⟨rfl, trivial⟩ ?_
  refine fA fi49_0 rfl rfl ?_
  refine l1 Tryz.underlying9 rfl rfl rfl ⟨rfl, trivial⟩ ?_
  refine r_pure a_seqlT rfl rfl ?_
  refine mP rfl rfl ?_
  refine fA fi49_1 rfl rfl ?_
  refine l1 Tryz.underlying9 rfl rfl rfl ⟨rfl, trivial⟩ ?_
  refine fA fi49_1 rfl rfl ?_
  refine l1 Tryz.underlying9 rfl rfl rfl ⟨rfl, trivial⟩ ?_
  refine r_pure a_seqlT rfl rfl ?_
  refine r_pure a_pickT rfl rfl ?_
  refine mP rfl rfl ?_
  refine fA fi49_2 rfl rfl ?_
  refine l1 Tryz.underlying9 rfl rfl rfl ⟨rfl, trivial⟩ ?_
  refine fA fi49_2 rfl rfl ?_
  refine l1 Tryz.underlying9 rfl rfl rfl ⟨rfl, trivial⟩ ?_
  refine r_pure a_seqlT rfl rfl ?_
  refine r_pure a_pickT rfl rfl ?_
  refine mP rfl rfl ?_
  refine fA fi49_3 rfl rfl ?_
  refine l1 Tryz.underlying3 rfl rfl rfl ⟨rfl, trivial⟩ ?_
  refine fA fi49_3 rfl rfl ?_
  refine l1 Tryz.underlying3 rfl rfl rfl ⟨rfl, trivial⟩ ?_
  refine r_pure a_eqlT rfl rfl ?_
  refine r_pure a_pickT rfl rfl ?_
  refine mP rfl rfl ?_
  refine fA fi49_4 rfl rfl ?_
  refine l1 Tryz.underlying47 rfl rfl rfl ⟨rfl, trivial⟩ ?_
  refine fA fi49_4 rfl rfl ?_
  refine l1 Tryz.underlying47 rfl rfl rfl ⟨rfl, trivial⟩ ?_
  refine r_callS (fun n => 36 + 1000 * n) (hQ) rfl rfl Tryz.func78 rfl rfl (by first | rfl | simp [AV.okInL, AV.okIn, okInL_map]) rfl rfl rfl (by first | exact trivial | exact ⟨rfl, trivial⟩ | exact ⟨rfl, rfl, trivial⟩) rfl rfl rfl ?_
  refine r_pure a_pickT rfl rfl ?_
  refine aP rfl rfl ?_
  refine arun_nil ?_
  refine awp_ret ?_
  refine fT (fun o => o) (.tmp _ _ _ _ rfl .nil) ?_ ?_
  · exact rfl
  · exact trivial
theorem samePes_s (l : List PE) (hn : l.length ≤ 1048576) (ok : ∀ p ∈ l, p.OK ∧ p.nets.length ≤ 1048576) : Fn Tryz.prog 76 [.p (.sl l.length 5 (l.flatMap PE.pv)), .p (.sl l.length 5 (l.flatMap PE.pv)), .fn 77 []] (.p (.v (.bool true))) [] := by
  refine fn_intro Tryz.func76 rfl (Nat.le_of_ble_eq_true rfl) fun w0 A => ?_
  refine awp_seq ?_
  refine tx ?_
  refine aP rfl rfl ?_
  refine arun_nil ?_
  refine awp_seq (awp_seq ?_)
  refine tx ?_
  refine mP rfl rfl ?_
  refine r_pure (a_lenS Tryz.underlying22) rfl rfl ?_
  refine mP rfl rfl ?_
  refine r_pure (a_lenS Tryz.underlying22) rfl rfl ?_
  refine r_pure a_neqT rfl rfl ?_
  refine arun_nil ?_
  refine thn_n ?_
  refine awp_cond _ rfl (fun h => ?_) (fun h => ?_)
  · simp at h
  refine awp_skip (awp_seq (awp_seq ?_))
  refine tx ?_
  refine mP rfl rfl ?_
  refine r_pure (a_lenS Tryz.underlying22) rfl rfl ?_
  refine mP rfl rfl ?_
  refine arun_nil ?_
  refine awp_block ?_
  refine awp_loopR (fun m st => ∃ i : Nat, m + i = l.length ∧ st = St.of [(1, .p (.sl l.length 5 (l.flatMap PE.pv))), (2, .fn 77 []), (15, .p (.sl l.length 5 (l.flatMap PE.pv))), (16, .p (.v (.int .i64 l.length))), (17, .p (.v (.int .i64 i)))] []) l.length ?_ ?_
  · refine ⟨_, re_of id _ _ ?_ ?_ rfl, 0, by omega, rfl⟩
    · (repeat (first | exact trivial | (refine ⟨⟨(by first | rfl | (simp; done) | (simp; omega)), rfl⟩, ?_⟩)))
    · exact trivial
  rintro m st ⟨i, hi, rfl⟩
  refine awp_seq ?_
  refine tx ?_
  refine r_pure a_lss rfl rfl ?_
  refine arun_nil ?_
  refine awp_seq ?_
  refine awp_cond _ rfl (fun h => ?_) (fun h => ?_)
  · have hlt : i < l.length := by simp at h; omega
    clear h
    obtain ⟨s, hs⟩ : ∃ s, l[i]? = some s := ⟨l[i], List.getElem?_eq_getElem hlt⟩
    have hch := chunk_at (f := PE.pv) (k := 5) (fun _ => rfl) hs
    have hle := chunk_le (f := PE.pv) (k := 5) (fun _ => rfl) hlt
    have hC := samePe_s s (ok s (List.mem_of_getElem? hs)).2
    generalize hL : l.flatMap PE.pv = L at *
    refine awp_skip (awp_seq (awp_block (awp_seq ?_)))
    refine tx ?_
    refine mP rfl rfl ?_
    refine r_pure (a_indexAddrS Tryz.underlying22 sz49 (by omega) (by omega) rfl) rfl rfl ?_
    refine r_pure (a_loadNp Tryz.underlying49 rfl sz49 (by first | omega | (simp; done) | (simp; omega)) (hch)) rfl rfl ?_
    refine r_run (a_alloc 8 zr49 rfl) rfl rfl ⟨rfl, trivial⟩ ?_
    refine aP rfl rfl ?_
    refine r_run (a_storeAll (Y := .agg s.cells) sz49 rfl rfl (Nat.eq_of_beq_eq_true rfl)) rfl rfl ⟨rfl, trivial⟩ ?_
    refine arun_nil ?_
    refine awp_seq ?_
    refine tx ?_
    refine mP rfl rfl ?_
    refine mP rfl rfl ?_
    refine r_pure (a_indexAddrS Tryz.underlying22 sz49 (by omega) (by omega) rfl) rfl rfl ?_
    refine r_pure (a_loadNp Tryz.underlying49 rfl sz49 (by first | omega | (simp; done) | (simp; omega)) (hch)) rfl rfl ?_
    refine r_run (a_alloc 9 zr49 rfl) rfl rfl ⟨rfl, trivial⟩ ?_
    refine r_run (a_storeAll (Y := .agg s.cells) sz49 rfl rfl (Nat.eq_of_beq_eq_true rfl)) rfl rfl ⟨rfl, trivial⟩ ?_
    refine arun_nil ?_
    refine awp_seq ?_
    refine tx ?_
    refine r_pure (a_move (r := .fn _ _)) rfl rfl ?_
    refine r_run (a_loadN Tryz.underlying49 rfl sz49 (by first | exact Nat.le_of_ble_eq_true rfl | omega | (simp only [AV.cells, List.length_map]; omega)) (show _ = s.cells from rfl)) rfl rfl ⟨rfl, trivial⟩ ?_
    refine r_run (a_loadN Tryz.underlying49 rfl sz49 (by first | exact Nat.le_of_ble_eq_true rfl | omega | (simp only [AV.cells, List.length_map]; omega)) (show _ = s.cells from rfl)) rfl rfl ⟨rfl, trivial⟩ ?_
    refine r_callS (fun n => 29 + 1000 * n) (hC) rfl rfl Tryz.func77 rfl rfl (by first | rfl | simp [AV.okInL, AV.okIn, okInL_map]) rfl rfl rfl (by first | exact trivial | exact ⟨rfl, trivial⟩ | exact ⟨rfl, rfl, trivial⟩) rfl rfl rfl ?_
    refine r_pure a_not rfl rfl ?_
    refine arun_nil ?_
    refine thn_n ?_
    refine awp_cond _ rfl (fun h => ?_) (fun h => ?_)
    · cases h
    refine awp_skip (inb_n (thn_n ?_))
    refine tx ?_
    refine r_pure (a_add (by first | exact IntWalk.i64_in _ (by omega) | rfl)) rfl rfl ?_
    refine mP rfl rfl ?_
    refine arun_nil ?_
    refine thn_n ?_
    refine ⟨m - 1, by omega, _, re_of id _ _ ?_ ?_ rfl, i + 1, by omega, rfl⟩
    · (repeat (first | exact trivial | (refine ⟨⟨(by first | rfl | (simp; done) | (simp; omega)), rfl⟩, ?_⟩)))
    · exact trivial
  refine awp_exit (awp_seq ?_)
  refine tx ?_
  refine aP rfl rfl ?_
  refine arun_nil ?_
  refine awp_ret ?_
  refine fT (fun o => o) (.tmp _ _ _ _ rfl .nil) ?_ ?_
  · exact rfl
  · exact trivial
theorem samePes0_s : Fn Tryz.prog 76 [.p (.v (.slice none 0 0)), .p (.v (.slice none 0 0)), .fn 77 []] (.p (.v (.bool true))) [] := by
  refine fn_intro Tryz.func76 rfl (Nat.le_of_ble_eq_true rfl) fun w0 A => ?_
  refine awp_seq ?_
  refine tx ?_
  refine aP rfl rfl ?_
  refine arun_nil ?_
  refine awp_seq (awp_seq ?_)
  refine tx ?_
  refine mP rfl rfl ?_
  refine r_pure (a_lenNil Tryz.underlying22) rfl rfl ?_
  refine mP rfl rfl ?_
  refine r_pure (a_lenNil Tryz.underlying22) rfl rfl ?_
  refine r_pure a_neqT rfl rfl ?_
  refine arun_nil ?_
  refine thn_n ?_
  refine awp_cond _ rfl (fun h => ?_) (fun h => ?_)
  · cases h
  refine awp_skip (awp_seq (awp_seq ?_))
  refine tx ?_
  refine mP rfl rfl ?_
  refine r_pure (a_lenNil Tryz.underlying22) rfl rfl ?_
  refine mP rfl rfl ?_
  refine arun_nil ?_
  refine awp_block ?_
  refine awp_loopR (fun m st => st = St.of [(1, .p (.v (.slice none 0 0))), (2, .fn 77 []), (15, .p (.v (.slice none 0 0))), (16, .p (.v (.int .i64 0))), (17, .p (.v (.int .i64 0)))] []) 0 ?_ ?_
  · refine ⟨_, re_of id _ _ ?_ ?_ rfl, rfl⟩
    · (repeat (first | exact trivial | (refine ⟨⟨(by first | rfl | (simp; done) | (simp; omega)), rfl⟩, ?_⟩)))
    · exact trivial
  rintro m st rfl
  refine awp_seq ?_
  refine tx ?_
  refine r_pure a_lss rfl rfl ?_
  refine arun_nil ?_
  refine awp_seq ?_
  refine awp_cond _ rfl (fun h => ?_) (fun h => ?_)
  · cases h
  refine awp_exit (awp_seq ?_)
  refine tx ?_
  refine aP rfl rfl ?_
  refine arun_nil ?_
  refine awp_ret ?_
  refine fT (fun o => o) (.tmp _ _ _ _ rfl .nil) ?_ ?_
  · exact rfl
  · exact trivial
theorem sameConfP (key : ByteArray) (port : Int) (Q : PV) (hQ : Fn Tryz.prog 76 [.p Q, .p Q, .fn 77 []] (.p (.v (.bool true))) []) : Fn Tryz.prog 34 [.agg [.p (.v (.string key)), .p (.v (.int .i64 port)), .p Q], .agg [.p (.v (.string key)), .p (.v (.int .i64 port)), .p Q]] (.p (.v (.bool true))) [] := by
  refine fn_intro Tryz.func34 rfl (Nat.le_of_ble_eq_true rfl) fun w0 A => ?_
  refine awp_seq ?_
  refine tx ?_
  refine r_run (a_box (X := .agg _) 2 rfl) rfl rfl ⟨rfl, trivial⟩ ?_
  refine r_run (a_box (X := .agg _) 3 rfl) rfl rfl ⟨rfl, trivial⟩ ?_
  refine aP rfl rfl ?_
  refine arun_nil ?_
  refine awp_seq ?_
  refine tx ?_
  refine fA fi24_0 rfl rfl ?_
  refine l1 Tryz.underlying9 rfl rfl rfl ⟨rfl, trivial⟩ ?_
  refine fA fi24_0 rfl rfl ?_
  refine l1 Tryz.underlying9 rfl rfl rfl ⟨rfl, trivial⟩ ?_
  refine r_pure a_seqlT rfl rfl ?_
  refine mP rfl rfl ?_
  refine fA fi24_1 rfl rfl ?_
  refine l1 Tryz.underlying3 rfl rfl rfl ⟨rfl, trivial⟩ ?_
  refine fA fi24_1 rfl rfl ?_
  refine l1 Tryz.underlying3 rfl rfl rfl ⟨rfl, trivial⟩ ?_
  refine r_pure a_eqlT rfl rfl ?_
  refine r_pure a_pickT rfl rfl ?_
  refine mP rfl rfl ?_
  refine fA fi24_2 rfl rfl ?_
  refine l1 Tryz.underlying22 rfl rfl rfl ⟨rfl, trivial⟩ ?_
  refine fA fi24_2 rfl rfl ?_
  refine l1 Tryz.underlying22 rfl rfl rfl ⟨rfl, trivial⟩ ?_
  refine r_callS (fun n => 22 + 1000 * n) (hQ) rfl rfl Tryz.func76 rfl rfl (by first | rfl | simp [AV.okInL, AV.okIn, okInL_map]) rfl rfl rfl (by first | exact trivial | exact ⟨rfl, trivial⟩ | exact ⟨rfl, rfl, trivial⟩) rfl rfl rfl ?_
  refine r_pure a_pickT rfl rfl ?_
  refine aP rfl rfl ?_
  refine arun_nil ?_
  refine awp_ret ?_
  refine fT (fun o => o) (.tmp _ _ _ _ rfl .nil) ?_ ?_
  · exact rfl
  · exact trivial
theorem sameConf_s (c : CF) (ok : c.OK) : Fn Tryz.prog 34 [.agg c.cells, .agg c.cells] (.p (.v (.bool true))) [] :=
  sameConfP c.key c.port _ (samePes_s c.ps ok.len ok.ps)
theorem sameConf0_s : Fn Tryz.prog 34 [.agg [.p (.v (.string ⟨#[]⟩)), .p (.v (.int .i64 0)), .p (.v (.slice none 0 0))], .agg [.p (.v (.string ⟨#[]⟩)), .p (.v (.int .i64 0)), .p (.v (.slice none 0 0))]] (.p (.v (.bool true))) [] :=
  sameConfP ⟨#[]⟩ 0 _ samePes0_s
end Go.Proofs.YtgpleldhddpcgaaGreatDoor
