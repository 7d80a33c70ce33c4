/- The law BatchParses, over data. -/
import Derived.Test.YtcjnecmgificmaaGreatDoorBp1
import Derived.Test.YtcjnecmgificmaaGreatDoorBp2
--%T
namespace Go.Proofs.YtcjnecmgificmaaGreatDoor
open Go.RowKit Go.Sort
set_option linter.unusedVariables false
set_option linter.unusedSimpArgs false
set_option maxRecDepth 100000

theorem law_BatchParses (x0 : List PV) (ty0 : Ty Tryz.prog 10 9 x0) : Fn Tryz.prog 5 [argAV false x0] (.p (.v (.bool true))) [] := by
  obtain ⟨s, rfl, _⟩ := ty_string Tryz.underlying9 ty0
  have p1 := bparse_s s
  have q1 := refBatch_s s
  show Fn Tryz.prog _ [.p (.v (.string s))] _ _
  have hl0 : bpO s = none → cntB s 10 ≤ 59 := by
    intro h
    unfold bpO at h
    cases hq : spO s with
    | some x => rw [hq] at h; cases h
    | none => exact (spO_none hq).2
  have hln : (((spl s 10).map lnOf).map rdS).length = cntB s 10 + 1 := by rw [List.length_map, List.length_map, spl_len]
  generalize ((spl s 10).map lnOf).map rdS = l at *
  generalize cntB s 10 = N at *
  generalize bpO s = o at *
  cases o with
  | some x =>
    obtain ⟨n, e⟩ := x
    have hS := sameSets0_s
    simp only [spR, bpN] at p1 q1
    refine fn_intro Tryz.func5 rfl (Nat.le_of_ble_eq_true rfl) fun w0 A => ?_
    refine awp_seq ?_
    refine tx ?_
    refine aP rfl rfl ?_
    refine arun_nil ?_
    refine awp_seq ?_
    refine tx ?_
    refine mP rfl rfl ?_
    refine r_callV (fun n => 11 + 1000 * n) (p1) rfl rfl Tryz.func18 rfl rfl (by first | rfl | simp [AV.noSl, AV.noSlL, AObj.noSl, PV.isV, bs_noSl]) (by first | rfl | simp [AV.noSl, AV.noSlL, AObj.noSl, PV.isV, bs_noSl]) rfl rfl rfl (by first | exact trivial | exact ⟨rfl, trivial⟩ | exact ⟨rfl, rfl, trivial⟩) rfl rfl rfl ?_
    refine r_pure (a_move (r := .tup _)) rfl rfl ?_
    refine r_pure (a_extract rfl) rfl rfl ?_
    refine r_pure (a_extract rfl) rfl rfl ?_
    refine r_pure (a_extract rfl) rfl rfl ?_
    refine aP rfl rfl ?_
    refine aP rfl rfl ?_
    refine aP rfl rfl ?_
    refine arun_nil ?_
    refine awp_seq ?_
    refine tx ?_
    refine mP rfl rfl ?_
    refine r_callV (fun n => 17 + 1000 * n) (q1) rfl rfl Tryz.func19 rfl rfl (by first | rfl | simp [AV.noSl, AV.noSlL, AObj.noSl, PV.isV, bs_noSl]) (by first | rfl | simp [AV.noSl, AV.noSlL, AObj.noSl, PV.isV, bs_noSl]) rfl rfl rfl (by first | exact trivial | exact ⟨rfl, trivial⟩ | exact ⟨rfl, rfl, trivial⟩) rfl rfl rfl ?_
    refine r_pure (a_move (r := .tup _)) rfl rfl ?_
    refine r_pure (a_extract rfl) rfl rfl ?_
    refine r_pure (a_extract rfl) rfl rfl ?_
    refine r_pure (a_extract rfl) rfl rfl ?_
    refine aP rfl rfl ?_
    refine aP rfl rfl ?_
    refine aP rfl rfl ?_
    refine arun_nil ?_
    refine awp_seq ?_
    refine tx ?_
    refine mP rfl rfl ?_
    refine mP rfl rfl ?_
    refine r_callV (fun n => 23 + 1000 * n) (hS) rfl rfl Tryz.func11 rfl rfl (by first | rfl | simp [AV.noSl, AV.noSlL, AObj.noSl, PV.isV, bs_noSl]) (by first | rfl | simp [AV.noSl, AV.noSlL, AObj.noSl, PV.isV, bs_noSl]) rfl rfl rfl (by first | exact trivial | exact ⟨rfl, trivial⟩ | exact ⟨rfl, rfl, trivial⟩) rfl rfl rfl ?_
    refine mP rfl rfl ?_
    refine mP rfl rfl ?_
    refine mP rfl rfl ?_
    refine r_pure a_eqlT rfl rfl ?_
    refine r_pure a_pickT rfl rfl ?_
    refine mP rfl rfl ?_
    refine mP rfl rfl ?_
    refine mP rfl rfl ?_
    refine r_pure a_eqlT rfl rfl ?_
    refine r_pure a_pickT rfl rfl ?_
    refine aP rfl rfl ?_
    refine arun_nil ?_
    refine awp_ret ?_
    refine fT (fun o => o) (.tmp _ _ _ _ rfl .nil) ?_ ?_
    · exact rfl
    · exact trivial
  | none =>
    have hN := hl0 rfl
    have hS := sameSets_s l (by omega)
    simp only [spR, bpN] at p1 q1
    clear hl0
    generalize l.flatMap SE.pv = L at *
    generalize l.length = M at *
    refine fn_intro Tryz.func5 rfl (Nat.le_of_ble_eq_true rfl) fun w0 A => ?_
    refine awp_seq ?_
    refine tx ?_
    refine aP rfl rfl ?_
    refine arun_nil ?_
    refine awp_seq ?_
    refine tx ?_
    refine mP rfl rfl ?_
    refine r_callS (fun n => 11 + 1000 * n) (p1) rfl rfl Tryz.func18 rfl rfl (by first | rfl | simp [AV.okInL, AV.okIn, okInL_map]) rfl rfl rfl (by first | exact trivial | exact ⟨rfl, trivial⟩ | exact ⟨rfl, rfl, trivial⟩) rfl rfl rfl ?_
    refine r_pure (a_move (r := .tup _)) rfl rfl ?_
    refine r_pure (a_extract rfl) rfl rfl ?_
    refine r_pure (a_extract rfl) rfl rfl ?_
    refine r_pure (a_extract rfl) rfl rfl ?_
    refine r_pure (a_assign (r := .row _)) rfl rfl ?_
    refine aP rfl rfl ?_
    refine aP rfl rfl ?_
    refine arun_nil ?_
    refine awp_seq ?_
    refine tx ?_
    refine mP rfl rfl ?_
    refine r_callS (fun n => 17 + 1000 * n) (q1) rfl rfl Tryz.func19 rfl rfl (by first | rfl | simp [AV.okInL, AV.okIn, okInL_map]) rfl rfl rfl (by first | exact trivial | exact ⟨rfl, trivial⟩ | exact ⟨rfl, rfl, trivial⟩) rfl rfl rfl ?_
    refine r_pure (a_move (r := .tup _)) rfl rfl ?_
    refine r_pure (a_extract rfl) rfl rfl ?_
    refine r_pure (a_extract rfl) rfl rfl ?_
    refine r_pure (a_extract rfl) rfl rfl ?_
    refine r_pure (a_assign (r := .row _)) rfl rfl ?_
    refine aP rfl rfl ?_
    refine aP rfl rfl ?_
    refine arun_nil ?_
    refine awp_seq ?_
    refine tx ?_
    refine r_pure (a_move (r := .row _)) rfl rfl ?_
    refine r_pure (a_move (r := .row _)) rfl rfl ?_
    refine r_callV (fun n => 23 + 1000 * n) (hS) rfl rfl Tryz.func11 rfl rfl (by first | rfl | simp [AV.noSl, AV.noSlL, AObj.noSl, PV.isV, bs_noSl]) (by first | rfl | simp [AV.noSl, AV.noSlL, AObj.noSl, PV.isV, bs_noSl]) rfl rfl rfl (by first | exact trivial | exact ⟨rfl, trivial⟩ | exact ⟨rfl, rfl, trivial⟩) rfl rfl rfl ?_
    refine mP rfl rfl ?_
    refine mP rfl rfl ?_
    refine mP rfl rfl ?_
    refine r_pure a_eqlT rfl rfl ?_
    refine r_pure a_pickT rfl rfl ?_
    refine mP rfl rfl ?_
    refine mP rfl rfl ?_
    refine mP rfl rfl ?_
    refine r_pure a_eqlT rfl rfl ?_
    refine r_pure a_pickT rfl rfl ?_
    refine aP rfl rfl ?_
    refine arun_nil ?_
    refine awp_ret ?_
    refine fT (fun o => o) (.tmp _ _ _ _ rfl .nil) ?_ ?_
    · exact rfl
    · exact trivial
end Go.Proofs.YtcjnecmgificmaaGreatDoor
