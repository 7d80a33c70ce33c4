/- The law TableTakes, over data. -/
import Derived.Test.YtfnipohlkifkhaaTk1
--%T
namespace Go.Proofs.Ytfnipohlkifkhaa
open Go.RowKit Go.Sort
set_option linter.unusedVariables false
set_option linter.unusedSimpArgs false
set_option maxRecDepth 100000

theorem slots_of_ty {n : Nat} {ps : List PV} (h : Ty Try.prog (n + 4) 57 ps) : ∃ a b c : KY, a.OK ∧ b.OK ∧ c.OK ∧ ps = slotsV a b c := by
  obtain ⟨_, rfl, x0, _, rfl, t0, x1, _, rfl, t1, x2, _, rfl, t2, rfl⟩ := ty_struct (ts := [53, 53, 53]) (by kernel_rfl) h
  obtain ⟨a, oa, rfl⟩ := KY.of_ty t0
  obtain ⟨b, ob, rfl⟩ := KY.of_ty t1
  obtain ⟨c, oc, rfl⟩ := KY.of_ty t2
  exact ⟨a, b, c, oa, ob, oc, rfl⟩
theorem slots_or (R : List AV) (a b c k : KY) (h : R = turnR a b c k) : ∃ x y z : KY, R = slots x y z := by
  rw [h]; unfold turnR
  split
  · exact ⟨_, _, _, rfl⟩
  · split
    · exact ⟨_, _, _, rfl⟩
    · exact ⟨_, _, _, rfl⟩
theorem conf_or (a b c : KY) : ∃ x y z : KY, confR a b c = slots x y z := by
  unfold confR
  split
  · exact ⟨_, _, _, rfl⟩
  · exact ⟨_, _, _, rfl⟩

set_option maxHeartbeats 1000000 in
theorem law_TableTakes (x0 : List PV) (ty0 : Ty Try.prog 10 57 x0) (x1 : List PV) (ty1 : Ty Try.prog 10 53 x1) : Fn Try.prog 10 [argAV true x0, argAV true x1] (.p (.v (.bool true))) [] := by
  obtain ⟨a, b, c, oa, ob, oc, rfl⟩ := slots_of_ty ty0
  obtain ⟨k, ok, rfl⟩ := KY.of_ty ty1
  have p1 := turn_s a b c k oa ob oc ok
  have p2 := confirm_s a b c
  have q1 := refTurn_s a b c k oa ob oc ok
  have q2 := refConfirm_s a b c
  show Fn Try.prog 10 [.agg (slots a b c), .agg k.cells] (.p (.v (.bool true))) []
  unfold turnRes at p1 q1
  obtain ⟨x, y, z, hR⟩ := slots_or _ a b c k rfl
  obtain ⟨u, v, w, hS⟩ := conf_or a b c
  rw [hR] at p1 q1
  rw [hS] at p2 q2
  generalize turnE a b c k = e at *
  clear hR hS
  refine fn_intro Try.func10 rfl (Nat.le_of_ble_eq_true rfl) fun w0 A => ?_
  refine awp_seq ?_
  refine awp_text (by kernel_rfl) ?_
  (refine r_run (a_box (X := .agg _) 2 rfl) rfl rfl ⟨rfl, trivial⟩ ?_)
  (refine r_run (a_box (X := .agg _) 3 rfl) rfl rfl ⟨rfl, trivial⟩ ?_)
  (refine r_pure (a_assign (r := .p _)) rfl rfl ?_)
  refine arun_nil ?_
  refine awp_seq ?_
  refine awp_text (by kernel_rfl) ?_
  (refine r_run (a_loadN Try.underlying57 rfl sz57 (by first | exact Nat.le_of_ble_eq_true rfl | omega | (simp only [AV.cells, List.length_map]; omega)) (by first | exact take_all (by first | assumption | exact Nat.eq_of_beq_eq_true rfl | (simp only [AV.cells, List.length_map]; first | assumption | omega)) | (simp only [List.take_succ_cons, List.take_zero, List.drop_succ_cons, List.drop_zero]; rfl) | rfl)) rfl rfl ⟨rfl, trivial⟩ ?_)
  (refine r_run (a_loadN Try.underlying53 rfl sz53 (by first | exact Nat.le_of_ble_eq_true rfl | omega | (simp only [AV.cells, List.length_map]; omega)) (by first | exact take_all (by first | assumption | exact Nat.eq_of_beq_eq_true rfl | (simp only [AV.cells, List.length_map]; first | assumption | omega)) | (simp only [List.take_succ_cons, List.take_zero, List.drop_succ_cons, List.drop_zero]; rfl) | rfl)) rfl rfl ⟨rfl, trivial⟩ ?_)
  (refine r_callV (fun n => 14 + 1000 * n) (p1) rfl rfl Try.func39 rfl rfl (by first | rfl | simp [AV.noSl, AV.noSlL, AObj.noSl, PV.isV, bs_noSl]) (by first | rfl | simp [AV.noSl, AV.noSlL, AObj.noSl, PV.isV, bs_noSl]) rfl rfl rfl (by first | exact trivial | exact ⟨rfl, trivial⟩ | exact ⟨rfl, rfl, trivial⟩) rfl rfl rfl ?_)
  (refine r_pure (a_move (r := .tup _)) rfl rfl ?_)
  (refine r_pure (a_extract rfl) rfl rfl ?_)
  (refine r_pure (a_extract rfl) rfl rfl ?_)
  (refine r_run (a_alloc 5 zr57 rfl) rfl rfl ⟨rfl, trivial⟩ ?_)
  (refine r_run (a_storeAll (Y := .agg _) sz57 rfl (by first | exact Nat.eq_of_beq_eq_true rfl | (simp only [AV.cells, List.length_map]; first | assumption | omega)) (Nat.eq_of_beq_eq_true rfl)) rfl rfl ⟨rfl, trivial⟩ ?_)
  (refine r_pure (a_assign (r := .p _)) rfl rfl ?_)
  refine arun_nil ?_
  refine awp_seq ?_
  refine awp_text (by kernel_rfl) ?_
  (refine r_run (a_loadN Try.underlying57 rfl sz57 (by first | exact Nat.le_of_ble_eq_true rfl | omega | (simp only [AV.cells, List.length_map]; omega)) (by first | exact take_all (by first | assumption | exact Nat.eq_of_beq_eq_true rfl | (simp only [AV.cells, List.length_map]; first | assumption | omega)) | (simp only [List.take_succ_cons, List.take_zero, List.drop_succ_cons, List.drop_zero]; rfl) | rfl)) rfl rfl ⟨rfl, trivial⟩ ?_)
  (refine r_callV (fun n => 18 + 1000 * n) (p2) rfl rfl Try.func40 rfl rfl (by first | rfl | simp [AV.noSl, AV.noSlL, AObj.noSl, PV.isV, bs_noSl]) (by first | rfl | simp [AV.noSl, AV.noSlL, AObj.noSl, PV.isV, bs_noSl]) rfl rfl rfl (by first | exact trivial | exact ⟨rfl, trivial⟩ | exact ⟨rfl, rfl, trivial⟩) rfl rfl rfl ?_)
  (refine r_run (a_alloc 7 zr57 rfl) rfl rfl ⟨rfl, trivial⟩ ?_)
  (refine r_run (a_storeAll (Y := .agg _) sz57 rfl (by first | exact Nat.eq_of_beq_eq_true rfl | (simp only [AV.cells, List.length_map]; first | assumption | omega)) (Nat.eq_of_beq_eq_true rfl)) rfl rfl ⟨rfl, trivial⟩ ?_)
  refine arun_nil ?_
  refine awp_seq ?_
  refine awp_text (by kernel_rfl) ?_
  (refine r_run (a_loadN Try.underlying57 rfl sz57 (by first | exact Nat.le_of_ble_eq_true rfl | omega | (simp only [AV.cells, List.length_map]; omega)) (by first | exact take_all (by first | assumption | exact Nat.eq_of_beq_eq_true rfl | (simp only [AV.cells, List.length_map]; first | assumption | omega)) | (simp only [List.take_succ_cons, List.take_zero, List.drop_succ_cons, List.drop_zero]; rfl) | rfl)) rfl rfl ⟨rfl, trivial⟩ ?_)
  (refine r_run (a_loadN Try.underlying53 rfl sz53 (by first | exact Nat.le_of_ble_eq_true rfl | omega | (simp only [AV.cells, List.length_map]; omega)) (by first | exact take_all (by first | assumption | exact Nat.eq_of_beq_eq_true rfl | (simp only [AV.cells, List.length_map]; first | assumption | omega)) | (simp only [List.take_succ_cons, List.take_zero, List.drop_succ_cons, List.drop_zero]; rfl) | rfl)) rfl rfl ⟨rfl, trivial⟩ ?_)
  (refine r_callV (fun n => 22 + 1000 * n) (q1) rfl rfl Try.func41 rfl rfl (by first | rfl | simp [AV.noSl, AV.noSlL, AObj.noSl, PV.isV, bs_noSl]) (by first | rfl | simp [AV.noSl, AV.noSlL, AObj.noSl, PV.isV, bs_noSl]) rfl rfl rfl (by first | exact trivial | exact ⟨rfl, trivial⟩ | exact ⟨rfl, rfl, trivial⟩) rfl rfl rfl ?_)
  (refine r_pure (a_move (r := .tup _)) rfl rfl ?_)
  (refine r_pure (a_extract rfl) rfl rfl ?_)
  (refine r_pure (a_extract rfl) rfl rfl ?_)
  (refine r_run (a_alloc 8 zr57 rfl) rfl rfl ⟨rfl, trivial⟩ ?_)
  (refine r_run (a_storeAll (Y := .agg _) sz57 rfl (by first | exact Nat.eq_of_beq_eq_true rfl | (simp only [AV.cells, List.length_map]; first | assumption | omega)) (Nat.eq_of_beq_eq_true rfl)) rfl rfl ⟨rfl, trivial⟩ ?_)
  (refine r_pure (a_assign (r := .p _)) rfl rfl ?_)
  refine arun_nil ?_
  refine awp_seq ?_
  refine awp_text (by kernel_rfl) ?_
  (refine r_run (a_loadN Try.underlying57 rfl sz57 (by first | exact Nat.le_of_ble_eq_true rfl | omega | (simp only [AV.cells, List.length_map]; omega)) (by first | exact take_all (by first | assumption | exact Nat.eq_of_beq_eq_true rfl | (simp only [AV.cells, List.length_map]; first | assumption | omega)) | (simp only [List.take_succ_cons, List.take_zero, List.drop_succ_cons, List.drop_zero]; rfl) | rfl)) rfl rfl ⟨rfl, trivial⟩ ?_)
  (refine r_callV (fun n => 26 + 1000 * n) (q2) rfl rfl Try.func42 rfl rfl (by first | rfl | simp [AV.noSl, AV.noSlL, AObj.noSl, PV.isV, bs_noSl]) (by first | rfl | simp [AV.noSl, AV.noSlL, AObj.noSl, PV.isV, bs_noSl]) rfl rfl rfl (by first | exact trivial | exact ⟨rfl, trivial⟩ | exact ⟨rfl, rfl, trivial⟩) rfl rfl rfl ?_)
  (refine r_run (a_alloc 10 zr57 rfl) rfl rfl ⟨rfl, trivial⟩ ?_)
  (refine r_run (a_storeAll (Y := .agg _) sz57 rfl (by first | exact Nat.eq_of_beq_eq_true rfl | (simp only [AV.cells, List.length_map]; first | assumption | omega)) (Nat.eq_of_beq_eq_true rfl)) rfl rfl ⟨rfl, trivial⟩ ?_)
  refine arun_nil ?_
  refine awp_seq ?_
  refine awp_text (by kernel_rfl) ?_
  (refine r_run (a_loadN Try.underlying57 rfl sz57 (by first | exact Nat.le_of_ble_eq_true rfl | omega | (simp only [AV.cells, List.length_map]; omega)) (by first | exact take_all (by first | assumption | exact Nat.eq_of_beq_eq_true rfl | (simp only [AV.cells, List.length_map]; first | assumption | omega)) | (simp only [List.take_succ_cons, List.take_zero, List.drop_succ_cons, List.drop_zero]; rfl) | rfl)) rfl rfl ⟨rfl, trivial⟩ ?_)
  (refine r_run (a_loadN Try.underlying57 rfl sz57 (by first | exact Nat.le_of_ble_eq_true rfl | omega | (simp only [AV.cells, List.length_map]; omega)) (by first | exact take_all (by first | assumption | exact Nat.eq_of_beq_eq_true rfl | (simp only [AV.cells, List.length_map]; first | assumption | omega)) | (simp only [List.take_succ_cons, List.take_zero, List.drop_succ_cons, List.drop_zero]; rfl) | rfl)) rfl rfl ⟨rfl, trivial⟩ ?_)
  (refine r_pure (a_steqT Try.underlying57 rfl (by kernel_rfl) (by kernel_rfl)) rfl rfl ?_)
  (refine r_pure (a_move (r := .p _)) rfl rfl ?_)
  (refine r_pure (a_move (r := .p _)) rfl rfl ?_)
  (refine r_pure (a_move (r := .p _)) rfl rfl ?_)
  (refine r_pure a_eqlT rfl rfl ?_)
  (refine r_pure a_pickT rfl rfl ?_)
  (refine r_pure (a_move (r := .p _)) rfl rfl ?_)
  (refine r_run (a_loadN Try.underlying57 rfl sz57 (by first | exact Nat.le_of_ble_eq_true rfl | omega | (simp only [AV.cells, List.length_map]; omega)) (by first | exact take_all (by first | assumption | exact Nat.eq_of_beq_eq_true rfl | (simp only [AV.cells, List.length_map]; first | assumption | omega)) | (simp only [List.take_succ_cons, List.take_zero, List.drop_succ_cons, List.drop_zero]; rfl) | rfl)) rfl rfl ⟨rfl, trivial⟩ ?_)
  (refine r_run (a_loadN Try.underlying57 rfl sz57 (by first | exact Nat.le_of_ble_eq_true rfl | omega | (simp only [AV.cells, List.length_map]; omega)) (by first | exact take_all (by first | assumption | exact Nat.eq_of_beq_eq_true rfl | (simp only [AV.cells, List.length_map]; first | assumption | omega)) | (simp only [List.take_succ_cons, List.take_zero, List.drop_succ_cons, List.drop_zero]; rfl) | rfl)) rfl rfl ⟨rfl, trivial⟩ ?_)
  (refine r_pure (a_steqT Try.underlying57 rfl (by kernel_rfl) (by kernel_rfl)) rfl rfl ?_)
  (refine r_pure a_pickT rfl rfl ?_)
  (refine r_pure (a_assign (r := .p _)) rfl rfl ?_)
  refine arun_nil ?_
  refine awp_ret ?_
  refine ⟨(by first | exact .inl rfl | exact .inr rfl), _, (fun o => o), (.tmp _ _ _ _ rfl .nil), ?_, rfl, ?_, rfl⟩
  · exact rfl
  · exact trivial
end Go.Proofs.Ytfnipohlkifkhaa
