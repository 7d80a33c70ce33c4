/- The law's sameSettings: settings are the same as themselves; over data. -/
import Derived.Test.YtgpleldhddpcgaaGreatDoorSBt1
namespace Go.Proofs.YtgpleldhddpcgaaGreatDoor
open Go.RowKit Go.Sort
set_option linter.unusedVariables false
set_option linter.unusedSimpArgs false
set_option maxRecDepth 100000
theorem eqSets_s (l : List SE) (hn : l.length ≤ 1048576) : Fn Tryz.prog 44 [.p (.sl l.length 5 (l.flatMap SE.pv)), .p (.sl l.length 5 (l.flatMap SE.pv))] (.p (.v (.bool true))) [] := by
  refine fn_intro Tryz.func44 rfl (Nat.le_of_ble_eq_true rfl) fun w0 A => ?_
  refine awp_seq ?_
  refine tx ?_
  refine aP rfl rfl ?_
  refine arun_nil ?_
  refine awp_seq (awp_seq ?_)
  refine tx ?_
  refine mP rfl rfl ?_
  refine r_pure (a_lenS Tryz.underlying33) rfl rfl ?_
  refine mP rfl rfl ?_
  refine r_pure (a_lenS Tryz.underlying33) rfl rfl ?_
  refine r_pure a_neqT rfl rfl ?_
  refine arun_nil ?_
  refine thn_n ?_
  refine awp_cond _ rfl (fun h => ?_) (fun h => ?_)
  · simp at h
  refine awp_skip (awp_seq (awp_seq ?_))
  refine tx ?_
  refine mP rfl rfl ?_
  refine r_pure (a_lenS Tryz.underlying33) rfl rfl ?_
  refine mP rfl rfl ?_
  refine arun_nil ?_
  refine awp_block ?_
  refine awp_loopR (fun m st => ∃ i : Nat, m + i = l.length ∧ st = St.of [(0, .p (.sl l.length 5 (l.flatMap SE.pv))), (1, .p (.sl l.length 5 (l.flatMap SE.pv))), (12, .p (.v (.int .i64 l.length))), (13, .p (.v (.int .i64 i)))] []) l.length ?_ ?_
  · refine ⟨_, re_of id _ _ ?_ ?_ rfl, 0, by omega, rfl⟩
    · (repeat (first | exact trivial | (refine ⟨⟨(by first | rfl | (simp; done) | (simp; omega)), rfl⟩, ?_⟩)))
    · exact trivial
  rintro m st ⟨i, hi, rfl⟩
  refine awp_seq ?_
  refine tx ?_
  refine r_pure a_lss rfl rfl ?_
  refine arun_nil ?_
  refine awp_seq ?_
  refine awp_cond _ rfl (fun h => ?_) (fun h => ?_)
  · have hlt : i < l.length := by simp at h; omega
    clear h
    obtain ⟨s, hs⟩ : ∃ s, l[i]? = some s := ⟨l[i], List.getElem?_eq_getElem hlt⟩
    have hch := chunk_at (f := SE.pv) (k := 5) (fun _ => rfl) hs
    have hle := chunk_le (f := SE.pv) (k := 5) (fun _ => rfl) hlt
    generalize hL : l.flatMap SE.pv = L at *
    obtain ⟨k, t, n, a, b⟩ := s
    refine awp_skip (awp_seq (awp_block (awp_seq ?_)))
    refine tx ?_
    refine mP rfl rfl ?_
    refine aP rfl rfl ?_
    refine arun_nil ?_
    refine awp_seq ?_
    refine awp_draw 4 (by kernel_rfl) ?_
    refine mP rfl rfl ?_
    refine mP rfl rfl ?_
    refine r_pure (a_indexAddrS Tryz.underlying33 sz86 (by omega) (by omega) rfl) rfl rfl ?_
    refine r_pure (a_loadNp Tryz.underlying86 rfl sz86 (by first | omega | (simp; done) | (simp; omega)) (hch)) rfl rfl ?_
    refine mP rfl rfl ?_
    refine mP rfl rfl ?_
    refine r_pure (a_indexAddrS Tryz.underlying33 sz86 (by omega) (by omega) rfl) rfl rfl ?_
    refine r_pure (a_loadNp Tryz.underlying86 rfl sz86 (by first | omega | (simp; done) | (simp; omega)) (hch)) rfl rfl ?_
    refine r_pure (a_stneqV Tryz.underlying86 (xs := [.int .i64 k, .string t, .int .i64 n, .int .u32 a, .int .i64 b]) (ys := [.int .i64 k, .string t, .int .i64 n, .int .u32 a, .int .i64 b]) rfl rfl (by kernel_rfl) (by kernel_rfl) (by kernel_rfl) (c := false) (by rw [eqL_refl]; rfl)) rfl rfl ?_
    refine arun_nil ⟨by kernel_rfl, ?_⟩
    refine thn_n ?_
    refine awp_cF rfl ?_
    refine awp_skip (inb_n (thn_n ?_))
    refine tx ?_
    refine r_pure (a_add (by first | exact IntWalk.i64_in _ (by omega) | rfl)) rfl rfl ?_
    refine mP rfl rfl ?_
    refine arun_nil ?_
    refine thn_n ?_
    refine ⟨m - 1, by omega, _, re_of id _ _ ?_ ?_ rfl, i + 1, by omega, rfl⟩
    · (repeat (first | exact trivial | (refine ⟨⟨(by first | rfl | (simp; done) | (simp; omega)), rfl⟩, ?_⟩)))
    · exact trivial
  refine awp_exit (awp_seq ?_)
  refine tx ?_
  refine aP rfl rfl ?_
  refine arun_nil ?_
  refine awp_ret ?_
  refine fT (fun o => o) (.tmp _ _ _ _ rfl .nil) ?_ ?_
  · exact rfl
  · exact trivial
theorem eqSets0_s : Fn Tryz.prog 44 [.p (.v (.slice none 0 0)), .p (.v (.slice none 0 0))] (.p (.v (.bool true))) [] := by
  refine fn_intro Tryz.func44 rfl (Nat.le_of_ble_eq_true rfl) fun w0 A => ?_
  refine awp_seq ?_
  refine tx ?_
  refine aP rfl rfl ?_
  refine arun_nil ?_
  refine awp_seq (awp_seq ?_)
  refine tx ?_
  refine mP rfl rfl ?_
  refine r_pure (a_lenNil Tryz.underlying33) rfl rfl ?_
  refine mP rfl rfl ?_
  refine r_pure (a_lenNil Tryz.underlying33) rfl rfl ?_
  refine r_pure a_neqT rfl rfl ?_
  refine arun_nil ?_
  refine thn_n ?_
  refine awp_cond _ rfl (fun h => ?_) (fun h => ?_)
  · cases h
  refine awp_skip (awp_seq (awp_seq ?_))
  refine tx ?_
  refine mP rfl rfl ?_
  refine r_pure (a_lenNil Tryz.underlying33) rfl rfl ?_
  refine mP rfl rfl ?_
  refine arun_nil ?_
  refine awp_block ?_
  refine awp_loopR (fun m st => st = St.of [(0, .p (.v (.slice none 0 0))), (1, .p (.v (.slice none 0 0))), (12, .p (.v (.int .i64 0))), (13, .p (.v (.int .i64 0)))] []) 0 ?_ ?_
  · refine ⟨_, re_of id _ _ ?_ ?_ rfl, rfl⟩
    · (repeat (first | exact trivial | (refine ⟨⟨(by first | rfl | (simp; done) | (simp; omega)), rfl⟩, ?_⟩)))
    · exact trivial
  rintro m st rfl
  refine awp_seq ?_
  refine tx ?_
  refine r_pure a_lss rfl rfl ?_
  refine arun_nil ?_
  refine awp_seq ?_
  refine awp_cond _ rfl (fun h => ?_) (fun h => ?_)
  · cases h
  refine awp_exit (awp_seq ?_)
  refine tx ?_
  refine aP rfl rfl ?_
  refine arun_nil ?_
  refine awp_ret ?_
  refine fT (fun o => o) (.tmp _ _ _ _ rfl .nil) ?_ ?_
  · exact rfl
  · exact trivial
theorem sameSets_s (l : List SE) (hn : l.length ≤ 1048576) : Fn Tryz.prog 33 [.p (.sl l.length 5 (l.flatMap SE.pv)), .p (.sl l.length 5 (l.flatMap SE.pv))] (.p (.v (.bool true))) [] := by
  have hC := eqSets_s l hn
  clear hn
  generalize l.flatMap SE.pv = L at *
  generalize l.length = N at *
  refine fn_intro Tryz.func33 rfl (Nat.le_of_ble_eq_true rfl) fun w0 A => ?_
  refine awp_seq ?_
  refine tx ?_
  refine aP rfl rfl ?_
  refine arun_nil ?_
  refine awp_seq ?_
  refine tx ?_
  refine mP rfl rfl ?_
  refine mP rfl rfl ?_
  refine r_callS (fun n => 7 + 1000 * n) (hC) rfl rfl Tryz.func44 rfl rfl (by first | rfl | simp [AV.okInL, AV.okIn, okInL_map]) rfl rfl rfl (by first | exact trivial | exact ⟨rfl, trivial⟩ | exact ⟨rfl, rfl, trivial⟩) rfl rfl rfl ?_
  refine aP rfl rfl ?_
  refine arun_nil ?_
  refine awp_ret ?_
  refine fT (fun o => o) (.tmp _ _ _ _ rfl .nil) ?_ ?_
  · exact rfl
  · exact trivial
theorem sameSets0_s : Fn Tryz.prog 33 [.p (.v (.slice none 0 0)), .p (.v (.slice none 0 0))] (.p (.v (.bool true))) [] := by
  have hC := eqSets0_s
  refine fn_intro Tryz.func33 rfl (Nat.le_of_ble_eq_true rfl) fun w0 A => ?_
  refine awp_seq ?_
  refine tx ?_
  refine aP rfl rfl ?_
  refine arun_nil ?_
  refine awp_seq ?_
  refine tx ?_
  refine mP rfl rfl ?_
  refine mP rfl rfl ?_
  refine r_callS (fun n => 7 + 1000 * n) (hC) rfl rfl Tryz.func44 rfl rfl (by first | rfl | simp [AV.okInL, AV.okIn, okInL_map]) rfl rfl rfl (by first | exact trivial | exact ⟨rfl, trivial⟩ | exact ⟨rfl, rfl, trivial⟩) rfl rfl rfl ?_
  refine aP rfl rfl ?_
  refine arun_nil ?_
  refine awp_ret ?_
  refine fT (fun o => o) (.tmp _ _ _ _ rfl .nil) ?_ ?_
  · exact rfl
  · exact trivial
end Go.Proofs.YtgpleldhddpcgaaGreatDoor
