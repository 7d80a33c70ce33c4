/- The reference's AnswerOf, the law ShakeAnswers, over data. -/
import Derived.Test.YtmdkfhmmhiofbaaSk6
--%T
namespace Go.Proofs.Ytmdkfhmmhiofbaa
open Go.RowKit Go.Sort
set_option linter.unusedVariables false
set_option linter.unusedSimpArgs false
set_option maxRecDepth 100000

set_option maxHeartbeats 8000000 in
theorem refAnswer_s (a b sh nc : ByteArray) (m : MS) (mine now : Int) (hsh : sh.size ≤ 140737488351232) (hx : m.xs.length = m.n) (hB : isB m.xs) (hm : m.n ≤ 140737488351232)
    (m0 : -9223372036854775808 ≤ mine) (m1 : mine ≤ 9223372036854775807) (n0 : -9223372036854775808 ≤ now) (n1 : now ≤ 9223372036854775807) :
    Fn Try.prog 7 [.p (.v (.string a)), .p (.v (.string b)), .p (.v (.string sh)), .agg m.cells, .p (.v (.int .i64 mine)), .p (.v (.string nc)), .p (.v (.int .i64 now))] (ansR a b sh nc m mine now) [] := by
  have hG := refGreets_s a b sh m hsh hx hB hm
  have hE : ansE a b sh nc m mine now = if greE a b sh m ≠ 0 then greE a b sh m else if noE nc ≠ 0 then noE nc else mkE (ansK a b sh) (greN m) nc false mine m.s now := rfl
  by_cases h1 : greE a b sh m ≠ 0
  · rw [if_pos h1] at hE
    rw [ansR_bad hE h1]
    rw [sRes_bad rfl h1] at hG
    generalize greE a b sh m = e at *
    refine fn_intro Try.func7 rfl (Nat.le_of_ble_eq_true rfl) fun w0 A => ?_
    refine awp_seq ?_
    refine awp_text (by kernel_rfl) ?_
    (refine r_run (a_box (X := .agg _) 10 rfl) rfl rfl ⟨rfl, trivial⟩ ?_)
    (refine r_run (a_alloc 14 zr24 rfl) rfl rfl ⟨rfl, trivial⟩ ?_)
    (refine r_run (a_alloc 15 zr32 rfl) rfl rfl ⟨rfl, trivial⟩ ?_)
    (refine r_pure (a_assign (r := .p _)) rfl rfl ?_)
    refine arun_nil ?_
    refine awp_seq ?_
    refine awp_text (by kernel_rfl) ?_
    (refine r_pure (a_move (r := .p _)) rfl rfl ?_)
    (refine r_pure (a_move (r := .p _)) rfl rfl ?_)
    (refine r_pure (a_move (r := .p _)) rfl rfl ?_)
    (refine r_run (a_loadN Try.underlying24 rfl sz24 (by first | exact Nat.le_of_ble_eq_true rfl | omega | (simp only [AV.cells, List.length_map]; omega)) (by first | exact take_all (by first | assumption | exact Nat.eq_of_beq_eq_true rfl | (simp only [AV.cells, List.length_map]; first | assumption | omega)) | (simp only [List.take_succ_cons, List.take_zero, List.drop_succ_cons, List.drop_zero]; rfl) | rfl)) rfl rfl ⟨rfl, trivial⟩ ?_)
    (refine r_callV (fun n => 28 + 1000 * n) (hG) rfl rfl Try.func6 rfl rfl (by first | rfl | simp [AV.noSl, AV.noSlL, AObj.noSl, PV.isV, bs_noSl]) (by first | rfl | simp [AV.noSl, AV.noSlL, AObj.noSl, PV.isV, bs_noSl]) rfl rfl rfl (by first | exact trivial | exact ⟨rfl, trivial⟩ | exact ⟨rfl, rfl, trivial⟩) rfl rfl rfl ?_)
    (refine r_pure (a_move (r := .tup _)) rfl rfl ?_)
    (refine r_pure (a_extract rfl) rfl rfl ?_)
    (refine r_pure (a_extract rfl) rfl rfl ?_)
    (refine r_pure (a_assign (r := .p _)) rfl rfl ?_)
    (refine r_pure (a_assign (r := .p _)) rfl rfl ?_)
    refine arun_nil ?_
    refine awp_seq (awp_seq ?_)
    refine awp_text (by kernel_rfl) ?_
    (refine r_pure (a_move (r := .p _)) rfl rfl ?_)
    (refine r_pure a_neq rfl rfl ?_)
    refine arun_nil ?_
    refine thn_n ?_
    refine awp_cond _ rfl (fun h => ?_) (fun h => ?_)
    · refine awp_seq ?_
      refine awp_text (by kernel_rfl) ?_
      (refine r_pure (b_build pl24 zr24 rfl rfl) rfl rfl ?_)
      (refine r_pure (b_build pl32 zr32 rfl rfl) rfl rfl ?_)
      (refine r_pure (a_move (r := .p _)) rfl rfl ?_)
      (refine r_run (a_storeAll (Y := .agg _) sz24 rfl (by first | exact Nat.eq_of_beq_eq_true rfl | (simp only [AV.cells, List.length_map]; first | assumption | omega)) (Nat.eq_of_beq_eq_true rfl)) rfl rfl ⟨rfl, trivial⟩ ?_)
      (refine r_run (a_storeAll (Y := .agg _) sz32 rfl (by first | exact Nat.eq_of_beq_eq_true rfl | (simp only [AV.cells, List.length_map]; first | assumption | omega)) (Nat.eq_of_beq_eq_true rfl)) rfl rfl ⟨rfl, trivial⟩ ?_)
      (refine r_pure (a_assign (r := .p _)) rfl rfl ?_)
      refine arun_nil ?_
      refine awp_ret (thn_r ?_)
      refine ⟨(by first | exact .inl rfl | exact .inr rfl), _, (fun o => o), (.cellN _ _ _ _ _ _ _ _ _ rfl rfl Try.underlying24 rfl sz24 (by first | assumption | kernel_rfl) (.cellN _ _ _ _ _ _ _ _ _ rfl rfl Try.underlying32 rfl sz32 (by first | assumption | kernel_rfl) (.tmp _ _ _ _ rfl .nil))), ?_, rfl, ?_, rfl⟩
      · exact rfl
      · exact trivial
    · exact absurd (by simpa using h) h1
  rw [if_neg h1] at hE
  replace h1 : greE a b sh m = 0 := Decidable.not_not.1 h1
  rw [sRes_good h1] at hG
  obtain ⟨s0, s1, hgz⟩ := greE_good h1 hx
  by_cases hz : nc.size = 16
  rotate_left
  · have hN1 : noE nc = 1 := by unfold noE; rw [if_neg hz]
    rw [if_pos (by rw [hN1]; decide), hN1] at hE
    rw [ansR_bad hE (by decide)]
    refine fn_intro Try.func7 rfl (Nat.le_of_ble_eq_true rfl) fun w0 A => ?_
    refine awp_seq ?_
    refine awp_text (by kernel_rfl) ?_
    (refine r_run (a_box (X := .agg _) 10 rfl) rfl rfl ⟨rfl, trivial⟩ ?_)
    (refine r_run (a_alloc 14 zr24 rfl) rfl rfl ⟨rfl, trivial⟩ ?_)
    (refine r_run (a_alloc 15 zr32 rfl) rfl rfl ⟨rfl, trivial⟩ ?_)
    (refine r_pure (a_assign (r := .p _)) rfl rfl ?_)
    refine arun_nil ?_
    refine awp_seq ?_
    refine awp_text (by kernel_rfl) ?_
    (refine r_pure (a_move (r := .p _)) rfl rfl ?_)
    (refine r_pure (a_move (r := .p _)) rfl rfl ?_)
    (refine r_pure (a_move (r := .p _)) rfl rfl ?_)
    (refine r_run (a_loadN Try.underlying24 rfl sz24 (by first | exact Nat.le_of_ble_eq_true rfl | omega | (simp only [AV.cells, List.length_map]; omega)) (by first | exact take_all (by first | assumption | exact Nat.eq_of_beq_eq_true rfl | (simp only [AV.cells, List.length_map]; first | assumption | omega)) | (simp only [List.take_succ_cons, List.take_zero, List.drop_succ_cons, List.drop_zero]; rfl) | rfl)) rfl rfl ⟨rfl, trivial⟩ ?_)
    (refine r_callV (fun n => 28 + 1000 * n) (hG) rfl rfl Try.func6 rfl rfl (by first | rfl | simp [AV.noSl, AV.noSlL, AObj.noSl, PV.isV, bs_noSl]) (by first | rfl | simp [AV.noSl, AV.noSlL, AObj.noSl, PV.isV, bs_noSl]) rfl rfl rfl (by first | exact trivial | exact ⟨rfl, trivial⟩ | exact ⟨rfl, rfl, trivial⟩) rfl rfl rfl ?_)
    (refine r_pure (a_move (r := .tup _)) rfl rfl ?_)
    (refine r_pure (a_extract rfl) rfl rfl ?_)
    (refine r_pure (a_extract rfl) rfl rfl ?_)
    (refine r_pure (a_assign (r := .p _)) rfl rfl ?_)
    (refine r_pure (a_assign (r := .p _)) rfl rfl ?_)
    refine arun_nil ?_
    refine awp_seq (awp_seq ?_)
    refine awp_text (by kernel_rfl) ?_
    (refine r_pure (a_move (r := .p _)) rfl rfl ?_)
    (refine r_pure a_neqT rfl rfl ?_)
    refine arun_nil ?_
    refine thn_n ?_
    refine awp_cond _ rfl (fun h => ?_) (fun h => ?_)
    · cases h
    refine awp_skip (awp_seq (awp_seq ?_))
    refine awp_text (by kernel_rfl) ?_
    (refine r_pure (a_move (r := .p _)) rfl rfl ?_)
    (refine r_pure (a_lenStr Try.underlying9) rfl rfl ?_)
    (refine r_pure a_neq rfl rfl ?_)
    refine arun_nil ?_
    refine thn_n ?_
    refine awp_cond _ rfl (fun h => ?_) (fun h => ?_)
    · refine awp_seq ?_
      refine awp_text (by kernel_rfl) ?_
      (refine r_pure (b_build pl24 zr24 rfl rfl) rfl rfl ?_)
      (refine r_pure (b_build pl32 zr32 rfl rfl) rfl rfl ?_)
      (refine r_run (a_storeAll (Y := .agg _) sz24 rfl (by first | exact Nat.eq_of_beq_eq_true rfl | (simp only [AV.cells, List.length_map]; first | assumption | omega)) (Nat.eq_of_beq_eq_true rfl)) rfl rfl ⟨rfl, trivial⟩ ?_)
      (refine r_run (a_storeAll (Y := .agg _) sz32 rfl (by first | exact Nat.eq_of_beq_eq_true rfl | (simp only [AV.cells, List.length_map]; first | assumption | omega)) (Nat.eq_of_beq_eq_true rfl)) rfl rfl ⟨rfl, trivial⟩ ?_)
      (refine r_pure (a_assign (r := .p _)) rfl rfl ?_)
      refine arun_nil ?_
      refine awp_ret (thn_r ?_)
      refine ⟨(by first | exact .inl rfl | exact .inr rfl), _, (fun o => o), (.cellN _ _ _ _ _ _ _ _ _ rfl rfl Try.underlying24 rfl sz24 (by first | assumption | kernel_rfl) (.cellN _ _ _ _ _ _ _ _ _ rfl rfl Try.underlying32 rfl sz32 (by first | assumption | kernel_rfl) (.tmp _ _ _ _ rfl .nil))), ?_, rfl, ?_, rfl⟩
      · exact rfl
      · exact trivial
    · exact absurd (by simp at h; omega) hz
  have hH := refBytes_s nc
  have hN1 : noE nc = hexE nc := by unfold noE; rw [if_pos hz]
  by_cases h2 : hexE nc ≠ 0
  · rw [hN1, if_pos h2] at hE
    rw [ansR_bad hE h2]
    obtain ⟨e1, e2⟩ := hexRes_bad rfl h2
    rw [e1, e2] at hH
    generalize hexE nc = e at *
    refine fn_intro Try.func7 rfl (Nat.le_of_ble_eq_true rfl) fun w0 A => ?_
    refine awp_seq ?_
    refine awp_text (by kernel_rfl) ?_
    (refine r_run (a_box (X := .agg _) 10 rfl) rfl rfl ⟨rfl, trivial⟩ ?_)
    (refine r_run (a_alloc 14 zr24 rfl) rfl rfl ⟨rfl, trivial⟩ ?_)
    (refine r_run (a_alloc 15 zr32 rfl) rfl rfl ⟨rfl, trivial⟩ ?_)
    (refine r_pure (a_assign (r := .p _)) rfl rfl ?_)
    refine arun_nil ?_
    refine awp_seq ?_
    refine awp_text (by kernel_rfl) ?_
    (refine r_pure (a_move (r := .p _)) rfl rfl ?_)
    (refine r_pure (a_move (r := .p _)) rfl rfl ?_)
    (refine r_pure (a_move (r := .p _)) rfl rfl ?_)
    (refine r_run (a_loadN Try.underlying24 rfl sz24 (by first | exact Nat.le_of_ble_eq_true rfl | omega | (simp only [AV.cells, List.length_map]; omega)) (by first | exact take_all (by first | assumption | exact Nat.eq_of_beq_eq_true rfl | (simp only [AV.cells, List.length_map]; first | assumption | omega)) | (simp only [List.take_succ_cons, List.take_zero, List.drop_succ_cons, List.drop_zero]; rfl) | rfl)) rfl rfl ⟨rfl, trivial⟩ ?_)
    (refine r_callV (fun n => 28 + 1000 * n) (hG) rfl rfl Try.func6 rfl rfl (by first | rfl | simp [AV.noSl, AV.noSlL, AObj.noSl, PV.isV, bs_noSl]) (by first | rfl | simp [AV.noSl, AV.noSlL, AObj.noSl, PV.isV, bs_noSl]) rfl rfl rfl (by first | exact trivial | exact ⟨rfl, trivial⟩ | exact ⟨rfl, rfl, trivial⟩) rfl rfl rfl ?_)
    (refine r_pure (a_move (r := .tup _)) rfl rfl ?_)
    (refine r_pure (a_extract rfl) rfl rfl ?_)
    (refine r_pure (a_extract rfl) rfl rfl ?_)
    (refine r_pure (a_assign (r := .p _)) rfl rfl ?_)
    (refine r_pure (a_assign (r := .p _)) rfl rfl ?_)
    refine arun_nil ?_
    refine awp_seq (awp_seq ?_)
    refine awp_text (by kernel_rfl) ?_
    (refine r_pure (a_move (r := .p _)) rfl rfl ?_)
    (refine r_pure a_neqT rfl rfl ?_)
    refine arun_nil ?_
    refine thn_n ?_
    refine awp_cond _ rfl (fun h => ?_) (fun h => ?_)
    · cases h
    refine awp_skip (awp_seq (awp_seq ?_))
    refine awp_text (by kernel_rfl) ?_
    (refine r_pure (a_move (r := .p _)) rfl rfl ?_)
    (refine r_pure (a_lenStr Try.underlying9) rfl rfl ?_)
    (refine r_pure a_neq rfl rfl ?_)
    refine arun_nil ?_
    refine thn_n ?_
    refine awp_cond _ rfl (fun h => ?_) (fun h => ?_)
    · simp [hz] at h
    refine awp_skip (awp_seq ?_)
    refine awp_text (by kernel_rfl) ?_
    (refine r_pure (a_move (r := .p _)) rfl rfl ?_)
    (refine r_callV (fun n => 43 + 1000 * n) (hH) rfl rfl Try.func22 rfl rfl (by first | rfl | simp [AV.noSl, AV.noSlL, AObj.noSl, PV.isV, bs_noSl]) (by first | rfl | simp [AV.noSl, AV.noSlL, AObj.noSl, PV.isV, bs_noSl]) rfl rfl rfl (by first | exact trivial | exact ⟨rfl, trivial⟩ | exact ⟨rfl, rfl, trivial⟩) rfl rfl rfl ?_)
    (refine r_pure (a_move (r := .tup _)) rfl rfl ?_)
    (refine r_pure (a_extract rfl) rfl rfl ?_)
    (refine r_pure (a_extract rfl) rfl rfl ?_)
    (refine r_pure (a_assign (r := .p _)) rfl rfl ?_)
    (refine r_pure (a_assign (r := .p _)) rfl rfl ?_)
    refine arun_nil ?_
    refine awp_seq (awp_seq ?_)
    refine awp_text (by kernel_rfl) ?_
    (refine r_pure (a_move (r := .p _)) rfl rfl ?_)
    (refine r_pure a_neq rfl rfl ?_)
    refine arun_nil ?_
    refine thn_n ?_
    refine awp_cond _ rfl (fun h => ?_) (fun h => ?_)
    · refine awp_seq ?_
      refine awp_text (by kernel_rfl) ?_
      (refine r_pure (b_build pl24 zr24 rfl rfl) rfl rfl ?_)
      (refine r_pure (b_build pl32 zr32 rfl rfl) rfl rfl ?_)
      (refine r_pure (a_move (r := .p _)) rfl rfl ?_)
      (refine r_run (a_storeAll (Y := .agg _) sz24 rfl (by first | exact Nat.eq_of_beq_eq_true rfl | (simp only [AV.cells, List.length_map]; first | assumption | omega)) (Nat.eq_of_beq_eq_true rfl)) rfl rfl ⟨rfl, trivial⟩ ?_)
      (refine r_run (a_storeAll (Y := .agg _) sz32 rfl (by first | exact Nat.eq_of_beq_eq_true rfl | (simp only [AV.cells, List.length_map]; first | assumption | omega)) (Nat.eq_of_beq_eq_true rfl)) rfl rfl ⟨rfl, trivial⟩ ?_)
      (refine r_pure (a_assign (r := .p _)) rfl rfl ?_)
      refine arun_nil ?_
      refine awp_ret (thn_r ?_)
      refine ⟨(by first | exact .inl rfl | exact .inr rfl), _, (fun o => o), (.cellN _ _ _ _ _ _ _ _ _ rfl rfl Try.underlying24 rfl sz24 (by first | assumption | kernel_rfl) (.cellN _ _ _ _ _ _ _ _ _ rfl rfl Try.underlying32 rfl sz32 (by first | assumption | kernel_rfl) (.tmp _ _ _ _ rfl .nil))), ?_, rfl, ?_, rfl⟩
      · exact rfl
      · exact trivial
    · exact absurd (by simpa using h) h2
  rw [hN1, if_neg h2] at hE
  replace h2 : hexE nc = 0 := Decidable.not_not.1 h2
  have hNB := noE_B (hN1.trans h2)
  have hNl := hexVals_len nc 8
  obtain ⟨e1, e2⟩ := hexRes_good h2
  rw [e1, e2, hz] at hH
  clear e1 e2
  change Fn Try.prog 22 _ _ [(0, .row 5 1 8 (bs (hexVals nc 8)))] at hH
  have hS := refSecret_s a b sh hsh
  unfold sRes at hS
  have hKd : (if secE a b sh = 0 then secS a b sh else ⟨#[]⟩) = ansK a b sh := rfl
  rw [hKd] at hS
  clear hKd
  have hM := refMake_s (ansK a b sh) (greN m) nc false mine m.s now m0 m1 (by omega) (by omega) n0 n1
  by_cases h3 : mkE (ansK a b sh) (greN m) nc false mine m.s now ≠ 0
  · rw [ansR_bad hE h3]
    rw [mkR_bad rfl h3] at hM
    generalize mkE (ansK a b sh) (greN m) nc false mine m.s now = e at *
    generalize hexVals nc 8 = N8 at *
    refine fn_intro Try.func7 rfl (Nat.le_of_ble_eq_true rfl) fun w0 A => ?_
    refine awp_seq ?_
    refine awp_text (by kernel_rfl) ?_
    (refine r_run (a_box (X := .agg _) 10 rfl) rfl rfl ⟨rfl, trivial⟩ ?_)
    (refine r_run (a_alloc 14 zr24 rfl) rfl rfl ⟨rfl, trivial⟩ ?_)
    (refine r_run (a_alloc 15 zr32 rfl) rfl rfl ⟨rfl, trivial⟩ ?_)
    (refine r_pure (a_assign (r := .p _)) rfl rfl ?_)
    refine arun_nil ?_
    refine awp_seq ?_
    refine awp_text (by kernel_rfl) ?_
    (refine r_pure (a_move (r := .p _)) rfl rfl ?_)
    (refine r_pure (a_move (r := .p _)) rfl rfl ?_)
    (refine r_pure (a_move (r := .p _)) rfl rfl ?_)
    (refine r_run (a_loadN Try.underlying24 rfl sz24 (by first | exact Nat.le_of_ble_eq_true rfl | omega | (simp only [AV.cells, List.length_map]; omega)) (by first | exact take_all (by first | assumption | exact Nat.eq_of_beq_eq_true rfl | (simp only [AV.cells, List.length_map]; first | assumption | omega)) | (simp only [List.take_succ_cons, List.take_zero, List.drop_succ_cons, List.drop_zero]; rfl) | rfl)) rfl rfl ⟨rfl, trivial⟩ ?_)
    (refine r_callV (fun n => 28 + 1000 * n) (hG) rfl rfl Try.func6 rfl rfl (by first | rfl | simp [AV.noSl, AV.noSlL, AObj.noSl, PV.isV, bs_noSl]) (by first | rfl | simp [AV.noSl, AV.noSlL, AObj.noSl, PV.isV, bs_noSl]) rfl rfl rfl (by first | exact trivial | exact ⟨rfl, trivial⟩ | exact ⟨rfl, rfl, trivial⟩) rfl rfl rfl ?_)
    (refine r_pure (a_move (r := .tup _)) rfl rfl ?_)
    (refine r_pure (a_extract rfl) rfl rfl ?_)
    (refine r_pure (a_extract rfl) rfl rfl ?_)
    (refine r_pure (a_assign (r := .p _)) rfl rfl ?_)
    (refine r_pure (a_assign (r := .p _)) rfl rfl ?_)
    refine arun_nil ?_
    refine awp_seq (awp_seq ?_)
    refine awp_text (by kernel_rfl) ?_
    (refine r_pure (a_move (r := .p _)) rfl rfl ?_)
    (refine r_pure a_neqT rfl rfl ?_)
    refine arun_nil ?_
    refine thn_n ?_
    refine awp_cond _ rfl (fun h => ?_) (fun h => ?_)
    · cases h
    refine awp_skip (awp_seq (awp_seq ?_))
    refine awp_text (by kernel_rfl) ?_
    (refine r_pure (a_move (r := .p _)) rfl rfl ?_)
    (refine r_pure (a_lenStr Try.underlying9) rfl rfl ?_)
    (refine r_pure a_neq rfl rfl ?_)
    refine arun_nil ?_
    refine thn_n ?_
    refine awp_cond _ rfl (fun h => ?_) (fun h => ?_)
    · simp [hz] at h
    refine awp_skip (awp_seq ?_)
    refine awp_text (by kernel_rfl) ?_
    (refine r_pure (a_move (r := .p _)) rfl rfl ?_)
    (refine r_callV (fun n => 43 + 1000 * n) (hH) rfl rfl Try.func22 rfl rfl (by first | rfl | simp [AV.noSl, AV.noSlL, AObj.noSl, PV.isV, bs_noSl]) (by first | rfl | simp [AV.noSl, AV.noSlL, AObj.noSl, PV.isV, bs_noSl]) rfl rfl rfl (by first | exact trivial | exact ⟨rfl, trivial⟩ | exact ⟨rfl, rfl, trivial⟩) rfl rfl rfl ?_)
    (refine r_pure (a_move (r := .tup _)) rfl rfl ?_)
    (refine r_pure (a_extract rfl) rfl rfl ?_)
    (refine r_pure (a_extract rfl) rfl rfl ?_)
    (refine r_pure (a_assign (r := .row _)) rfl rfl ?_)
    (refine r_pure (a_assign (r := .p _)) rfl rfl ?_)
    refine arun_nil ?_
    refine awp_seq (awp_seq ?_)
    refine awp_text (by kernel_rfl) ?_
    (refine r_pure (a_move (r := .p _)) rfl rfl ?_)
    (refine r_pure a_neqT rfl rfl ?_)
    refine arun_nil ?_
    refine thn_n ?_
    refine awp_cond _ rfl (fun h => ?_) (fun h => ?_)
    · cases h
    refine awp_skip (awp_seq ?_)
    refine awp_text (by kernel_rfl) ?_
    (refine r_pure (a_move (r := .p _)) rfl rfl ?_)
    (refine r_pure (a_move (r := .p _)) rfl rfl ?_)
    (refine r_pure (a_move (r := .p _)) rfl rfl ?_)
    (refine r_callV (fun n => 55 + 1000 * n) (hS) rfl rfl Try.func23 rfl rfl (by first | rfl | simp [AV.noSl, AV.noSlL, AObj.noSl, PV.isV, bs_noSl]) (by first | rfl | simp [AV.noSl, AV.noSlL, AObj.noSl, PV.isV, bs_noSl]) rfl rfl rfl (by first | exact trivial | exact ⟨rfl, trivial⟩ | exact ⟨rfl, rfl, trivial⟩) rfl rfl rfl ?_)
    (refine r_pure (a_move (r := .tup _)) rfl rfl ?_)
    (refine r_pure (a_extract rfl) rfl rfl ?_)
    (refine r_pure (a_extract rfl) rfl rfl ?_)
    (refine r_pure (a_assign (r := .p _)) rfl rfl ?_)
    (refine r_pure (a_assign (r := .p _)) rfl rfl ?_)
    refine arun_nil ?_
    refine awp_seq ?_
    refine awp_text (by kernel_rfl) ?_
    (refine r_pure (a_move (r := .p _)) rfl rfl ?_)
    (refine r_pure (a_move (r := .p _)) rfl rfl ?_)
    (refine r_pure (a_move (r := .p _)) rfl rfl ?_)
    (refine r_pure (a_move (r := .p _)) rfl rfl ?_)
    (refine r_pure (b_fieldAddr fi24_1 rfl) rfl rfl ?_)
    (refine r_run (a_load1 Try.underlying3 rfl (by first | rfl | assumption)) rfl rfl ⟨rfl, trivial⟩ ?_)
    (refine r_pure (a_move (r := .p _)) rfl rfl ?_)
    (refine r_callV (fun n => 66 + 1000 * n) (hM) rfl rfl Try.func24 rfl rfl (by first | rfl | simp [AV.noSl, AV.noSlL, AObj.noSl, PV.isV, bs_noSl]) (by first | rfl | simp [AV.noSl, AV.noSlL, AObj.noSl, PV.isV, bs_noSl]) rfl rfl rfl (by first | exact trivial | exact ⟨rfl, trivial⟩ | exact ⟨rfl, rfl, trivial⟩) rfl rfl rfl ?_)
    (refine r_pure (a_move (r := .tup _)) rfl rfl ?_)
    (refine r_pure (a_extract rfl) rfl rfl ?_)
    (refine r_pure (a_extract rfl) rfl rfl ?_)
    (refine r_run (a_alloc 22 zr32 rfl) rfl rfl ⟨rfl, trivial⟩ ?_)
    refine r_run (a_storeAll (Y := .agg KY0.cells) sz32 rfl rfl (Nat.eq_of_beq_eq_true rfl)) rfl rfl ⟨rfl, trivial⟩ ?_
    (refine r_pure (a_assign (r := .p _)) rfl rfl ?_)
    refine arun_nil ?_
    refine awp_seq (awp_seq ?_)
    refine awp_text (by kernel_rfl) ?_
    (refine r_pure (a_move (r := .p _)) rfl rfl ?_)
    (refine r_pure a_neq rfl rfl ?_)
    refine arun_nil ?_
    refine thn_n ?_
    refine awp_cond _ rfl (fun h => ?_) (fun h => ?_)
    · refine awp_seq ?_
      refine awp_text (by kernel_rfl) ?_
      (refine r_pure (b_build pl24 zr24 rfl rfl) rfl rfl ?_)
      (refine r_pure (b_build pl32 zr32 rfl rfl) rfl rfl ?_)
      (refine r_pure (a_move (r := .p _)) rfl rfl ?_)
      (refine r_run (a_storeAll (Y := .agg _) sz24 rfl (by first | exact Nat.eq_of_beq_eq_true rfl | (simp only [AV.cells, List.length_map]; first | assumption | omega)) (Nat.eq_of_beq_eq_true rfl)) rfl rfl ⟨rfl, trivial⟩ ?_)
      (refine r_run (a_storeAll (Y := .agg _) sz32 rfl (by first | exact Nat.eq_of_beq_eq_true rfl | (simp only [AV.cells, List.length_map]; first | assumption | omega)) (Nat.eq_of_beq_eq_true rfl)) rfl rfl ⟨rfl, trivial⟩ ?_)
      (refine r_pure (a_assign (r := .p _)) rfl rfl ?_)
      refine arun_nil ?_
      refine awp_ret (thn_r ?_)
      refine ⟨(by first | exact .inl rfl | exact .inr rfl), _, (fun o => o), (.cellN _ _ _ _ _ _ _ _ _ rfl rfl Try.underlying24 rfl sz24 (by first | assumption | kernel_rfl) (.cellN _ _ _ _ _ _ _ _ _ rfl rfl Try.underlying32 rfl sz32 (by first | assumption | kernel_rfl) (.tmp _ _ _ _ rfl .nil))), ?_, rfl, ?_, rfl⟩
      · exact rfl
      · exact trivial
    · exact absurd (by simpa using h) h3
  replace h3 : mkE (ansK a b sh) (greN m) nc false mine m.s now = 0 := Decidable.not_not.1 h3
  rw [h3] at hE
  rw [ansR_good hE]
  rw [mkR_good h3] at hM
  have hKey := mkE_key h3
  have hT := answerTagR_s (ansK a b sh) (greN m) m.s mine (hexVals nc 8) hKey hgz hNl hNB (by omega) (by omega) m0 m1
  have hMc : (ansM a b sh nc m mine).cells = [.p (.v (.int .i64 2)), .p (.v (.int .i64 mine)), .p (.v (.int .i64 m.s)), .p (.v (.int .i64 0)), .p (.sl 24 1 (bs (hexVals nc 8 ++ ansT (ansK a b sh) (greN m) m.s mine (hexVals nc 8))))] := rfl
  rw [hMc]
  unfold ansT
  have hD := macD_len (ansK a b sh) (ansIn (greN m) m.s mine (hexVals nc 8))
  clear hMc hE h1 h2 h3 hKey
  generalize macD (ansK a b sh) (ansIn (greN m) m.s mine (hexVals nc 8)) = D at *
  generalize mkKY (ansK a b sh) (greN m) nc false mine m.s now = kk at *
  generalize ansK a b sh = K at *
  generalize greN m = GN at *
  generalize hexVals nc 8 = N8 at *
  have hmc : m.cells = [.p (.v (.int .i64 m.t)), .p (.v (.int .i64 m.s)), .p (.v (.int .i64 m.r)), .p (.v (.int .i64 m.c)), .p (.sl m.n 1 (bs m.xs))] := rfl
  rw [hmc] at hG ⊢
  have hbl : (bs D).length = 32 := by rw [bs_length]; exact hD
  have happ : bs N8 ++ ((bs D).drop 0).take (16 * 1) = bs (N8 ++ D.take 16) := by
    rw [← bs_appd]
    congr 1
    simp [bs, List.map_take]
  refine fn_intro Try.func7 rfl (Nat.le_of_ble_eq_true rfl) fun w0 A => ?_
  refine awp_seq ?_
  refine awp_text (by kernel_rfl) ?_
  (refine r_run (a_box (X := .agg _) 10 rfl) rfl rfl ⟨rfl, trivial⟩ ?_)
  (refine r_run (a_alloc 14 zr24 rfl) rfl rfl ⟨rfl, trivial⟩ ?_)
  (refine r_run (a_alloc 15 zr32 rfl) rfl rfl ⟨rfl, trivial⟩ ?_)
  (refine r_pure (a_assign (r := .p _)) rfl rfl ?_)
  refine arun_nil ?_
  refine awp_seq ?_
  refine awp_text (by kernel_rfl) ?_
  (refine r_pure (a_move (r := .p _)) rfl rfl ?_)
  (refine r_pure (a_move (r := .p _)) rfl rfl ?_)
  (refine r_pure (a_move (r := .p _)) rfl rfl ?_)
  (refine r_run (a_loadN Try.underlying24 rfl sz24 (by first | exact Nat.le_of_ble_eq_true rfl | omega | (simp only [AV.cells, List.length_map]; omega)) (by first | exact take_all (by first | assumption | exact Nat.eq_of_beq_eq_true rfl | (simp only [AV.cells, List.length_map]; first | assumption | omega)) | (simp only [List.take_succ_cons, List.take_zero, List.drop_succ_cons, List.drop_zero]; rfl) | rfl)) rfl rfl ⟨rfl, trivial⟩ ?_)
  (refine r_callV (fun n => 28 + 1000 * n) (hG) rfl rfl Try.func6 rfl rfl (by first | rfl | simp [AV.noSl, AV.noSlL, AObj.noSl, PV.isV, bs_noSl]) (by first | rfl | simp [AV.noSl, AV.noSlL, AObj.noSl, PV.isV, bs_noSl]) rfl rfl rfl (by first | exact trivial | exact ⟨rfl, trivial⟩ | exact ⟨rfl, rfl, trivial⟩) rfl rfl rfl ?_)
  (refine r_pure (a_move (r := .tup _)) rfl rfl ?_)
  (refine r_pure (a_extract rfl) rfl rfl ?_)
  (refine r_pure (a_extract rfl) rfl rfl ?_)
  (refine r_pure (a_assign (r := .p _)) rfl rfl ?_)
  (refine r_pure (a_assign (r := .p _)) rfl rfl ?_)
  refine arun_nil ?_
  refine awp_seq (awp_seq ?_)
  refine awp_text (by kernel_rfl) ?_
  (refine r_pure (a_move (r := .p _)) rfl rfl ?_)
  (refine r_pure a_neqT rfl rfl ?_)
  refine arun_nil ?_
  refine thn_n ?_
  refine awp_cond _ rfl (fun h => ?_) (fun h => ?_)
  · cases h
  refine awp_skip (awp_seq (awp_seq ?_))
  refine awp_text (by kernel_rfl) ?_
  (refine r_pure (a_move (r := .p _)) rfl rfl ?_)
  (refine r_pure (a_lenStr Try.underlying9) rfl rfl ?_)
  (refine r_pure a_neq rfl rfl ?_)
  refine arun_nil ?_
  refine thn_n ?_
  refine awp_cond _ rfl (fun h => ?_) (fun h => ?_)
  · simp [hz] at h
  refine awp_skip (awp_seq ?_)
  refine awp_text (by kernel_rfl) ?_
  (refine r_pure (a_move (r := .p _)) rfl rfl ?_)
  (refine r_callV (fun n => 43 + 1000 * n) (hH) rfl rfl Try.func22 rfl rfl (by first | rfl | simp [AV.noSl, AV.noSlL, AObj.noSl, PV.isV, bs_noSl]) (by first | rfl | simp [AV.noSl, AV.noSlL, AObj.noSl, PV.isV, bs_noSl]) rfl rfl rfl (by first | exact trivial | exact ⟨rfl, trivial⟩ | exact ⟨rfl, rfl, trivial⟩) rfl rfl rfl ?_)
  (refine r_pure (a_move (r := .tup _)) rfl rfl ?_)
  (refine r_pure (a_extract rfl) rfl rfl ?_)
  (refine r_pure (a_extract rfl) rfl rfl ?_)
  (refine r_pure (a_assign (r := .row _)) rfl rfl ?_)
  (refine r_pure (a_assign (r := .p _)) rfl rfl ?_)
  refine arun_nil ?_
  refine awp_seq (awp_seq ?_)
  refine awp_text (by kernel_rfl) ?_
  (refine r_pure (a_move (r := .p _)) rfl rfl ?_)
  (refine r_pure a_neqT rfl rfl ?_)
  refine arun_nil ?_
  refine thn_n ?_
  refine awp_cond _ rfl (fun h => ?_) (fun h => ?_)
  · cases h
  refine awp_skip (awp_seq ?_)
  refine awp_text (by kernel_rfl) ?_
  (refine r_pure (a_move (r := .p _)) rfl rfl ?_)
  (refine r_pure (a_move (r := .p _)) rfl rfl ?_)
  (refine r_pure (a_move (r := .p _)) rfl rfl ?_)
  (refine r_callV (fun n => 55 + 1000 * n) (hS) rfl rfl Try.func23 rfl rfl (by first | rfl | simp [AV.noSl, AV.noSlL, AObj.noSl, PV.isV, bs_noSl]) (by first | rfl | simp [AV.noSl, AV.noSlL, AObj.noSl, PV.isV, bs_noSl]) rfl rfl rfl (by first | exact trivial | exact ⟨rfl, trivial⟩ | exact ⟨rfl, rfl, trivial⟩) rfl rfl rfl ?_)
  (refine r_pure (a_move (r := .tup _)) rfl rfl ?_)
  (refine r_pure (a_extract rfl) rfl rfl ?_)
  (refine r_pure (a_extract rfl) rfl rfl ?_)
  (refine r_pure (a_assign (r := .p _)) rfl rfl ?_)
  (refine r_pure (a_assign (r := .p _)) rfl rfl ?_)
  refine arun_nil ?_
  refine awp_seq ?_
  refine awp_text (by kernel_rfl) ?_
  (refine r_pure (a_move (r := .p _)) rfl rfl ?_)
  (refine r_pure (a_move (r := .p _)) rfl rfl ?_)
  (refine r_pure (a_move (r := .p _)) rfl rfl ?_)
  (refine r_pure (a_move (r := .p _)) rfl rfl ?_)
  (refine r_pure (b_fieldAddr fi24_1 rfl) rfl rfl ?_)
  (refine r_run (a_load1 Try.underlying3 rfl (by first | rfl | assumption)) rfl rfl ⟨rfl, trivial⟩ ?_)
  (refine r_pure (a_move (r := .p _)) rfl rfl ?_)
  (refine r_callV (fun n => 66 + 1000 * n) (hM) rfl rfl Try.func24 rfl rfl (by first | rfl | simp [AV.noSl, AV.noSlL, AObj.noSl, PV.isV, bs_noSl]) (by first | rfl | simp [AV.noSl, AV.noSlL, AObj.noSl, PV.isV, bs_noSl]) rfl rfl rfl (by first | exact trivial | exact ⟨rfl, trivial⟩ | exact ⟨rfl, rfl, trivial⟩) rfl rfl rfl ?_)
  (refine r_pure (a_move (r := .tup _)) rfl rfl ?_)
  (refine r_pure (a_extract rfl) rfl rfl ?_)
  (refine r_pure (a_extract rfl) rfl rfl ?_)
  (refine r_run (a_alloc 22 zr32 rfl) rfl rfl ⟨rfl, trivial⟩ ?_)
  refine r_run (a_storeAll (Y := .agg kk.cells) sz32 rfl rfl (Nat.eq_of_beq_eq_true rfl)) rfl rfl ⟨rfl, trivial⟩ ?_
  (refine r_pure (a_assign (r := .p _)) rfl rfl ?_)
  refine arun_nil ?_
  refine awp_seq (awp_seq ?_)
  refine awp_text (by kernel_rfl) ?_
  (refine r_pure (a_move (r := .p _)) rfl rfl ?_)
  (refine r_pure a_neqT rfl rfl ?_)
  refine arun_nil ?_
  refine thn_n ?_
  refine awp_cond _ rfl (fun h => ?_) (fun h => ?_)
  · cases h
  refine awp_skip (awp_seq ?_)
  refine awp_draw 4 (by kernel_rfl) ?_
  (refine r_pure (a_move (r := .p _)) rfl rfl ?_)
  (refine r_pure (b_fieldAddr fi24_1 rfl) rfl rfl ?_)
  (refine r_run (a_load1 Try.underlying3 rfl (by first | rfl | assumption)) rfl rfl ⟨rfl, trivial⟩ ?_)
  (refine r_pure (a_move (r := .row _)) rfl rfl ?_)
  (refine r_pure (a_move (r := .p _)) rfl rfl ?_)
  (refine r_pure (a_move (r := .p _)) rfl rfl ?_)
  (refine r_pure (b_fieldAddr fi24_1 rfl) rfl rfl ?_)
  (refine r_run (a_load1 Try.underlying3 rfl (by first | rfl | assumption)) rfl rfl ⟨rfl, trivial⟩ ?_)
  (refine r_pure (a_move (r := .p _)) rfl rfl ?_)
  (refine r_pure (a_move (r := .row _)) rfl rfl ?_)
  (refine r_callV (fun n => 84 + 1000 * n) (hT) rfl rfl Try.func25 rfl rfl (by first | rfl | simp [AV.noSl, AV.noSlL, AObj.noSl, PV.isV, bs_noSl]) (by first | rfl | simp [AV.noSl, AV.noSlL, AObj.noSl, PV.isV, bs_noSl]) rfl rfl rfl (by first | exact trivial | exact ⟨rfl, trivial⟩ | exact ⟨rfl, rfl, trivial⟩) rfl rfl rfl ?_)
  (refine r_run (a_append 85 Try.underlying22 eo5 (src_psl (by omega) rfl) (by simp only [maxLen]; omega) (by omega) (show _ = 24 by omega) happ) rfl rfl ⟨rfl, rfl, rfl, trivial⟩ ?_)
  (refine r_pure (b_build pl24 zr24 rfl rfl) rfl rfl ?_)
  (refine r_run (a_loadN Try.underlying32 rfl sz32 (by first | exact Nat.le_of_ble_eq_true rfl | omega | (simp only [AV.cells, List.length_map]; omega)) (by first | exact take_all (by first | assumption | exact Nat.eq_of_beq_eq_true rfl | (simp only [AV.cells, List.length_map]; first | assumption | omega)) | (simp only [List.take_succ_cons, List.take_zero, List.drop_succ_cons, List.drop_zero]; rfl) | rfl)) rfl rfl ⟨rfl, trivial⟩ ?_)
  (refine r_run (a_storeAll (Y := .agg _) sz24 rfl (by first | exact Nat.eq_of_beq_eq_true rfl | (simp only [AV.cells, List.length_map]; first | assumption | omega)) (Nat.eq_of_beq_eq_true rfl)) rfl rfl ⟨rfl, trivial⟩ ?_)
  refine r_run (a_storeAll (Y := .agg kk.cells) sz32 rfl rfl (Nat.eq_of_beq_eq_true rfl)) rfl rfl ⟨rfl, trivial⟩ ?_
  (refine r_pure (a_assign (r := .p _)) rfl rfl ?_)
  refine arun_nil ⟨by kernel_rfl, ?_⟩
  refine thn_n (awp_reO (reo_fzR (cs := bs (N8 ++ D.take 16)) 85 rfl) ?_)
  refine awp_ret ?_
  refine ⟨(by first | exact .inl rfl | exact .inr rfl), _, (fun o => o), (.cellN _ _ _ _ _ _ _ _ _ rfl rfl Try.underlying24 rfl sz24 (by first | assumption | kernel_rfl) (.cellN _ _ _ _ _ _ _ _ _ rfl rfl Try.underlying32 rfl sz32 (by first | assumption | kernel_rfl) (.tmp _ _ _ _ rfl .nil))), ?_, rfl, ?_, rfl⟩
  · exact rfl
  · exact trivial

set_option maxHeartbeats 1000000 in
theorem law_ShakeAnswers (x0 : List PV) (ty0 : Ty Try.prog 10 9 x0) (x1 : List PV) (ty1 : Ty Try.prog 10 9 x1) (x2 : List PV) (ty2 : Ty Try.prog 10 9 x2) (x3 : List PV) (ty3 : Ty Try.prog 10 24 x3) (x4 : List PV) (ty4 : Ty Try.prog 10 3 x4) (x5 : List PV) (ty5 : Ty Try.prog 10 9 x5) (x6 : List PV) (ty6 : Ty Try.prog 10 3 x6) :
    Fn Try.prog 3 [argAV false x0, argAV false x1, argAV false x2, argAV true x3, argAV false x4, argAV false x5, argAV false x6] (.p (.v (.bool true))) [] := by
  obtain ⟨a, rfl, _⟩ := ty_string Try.underlying9 ty0
  obtain ⟨b, rfl, _⟩ := ty_string Try.underlying9 ty1
  obtain ⟨sh, rfl, hsh⟩ := ty_string Try.underlying9 ty2
  obtain ⟨m, hx, hB, hl, rfl⟩ := MS.of_ty ty3
  obtain ⟨mine, rfl, hmi⟩ := ty_int Try.underlying3 ty4
  obtain ⟨nc, rfl, _⟩ := ty_string Try.underlying9 ty5
  obtain ⟨now, rfl, hn⟩ := ty_int Try.underlying3 ty6
  obtain ⟨m0, m1⟩ := wf_i64 hmi
  obtain ⟨n0, n1⟩ := wf_i64 hn
  have hp := answer_s a b sh nc m mine now hsh hx hB hl m0 m1 n0 n1
  have hq := refAnswer_s a b sh nc m mine now hsh hx hB hl m0 m1 n0 n1
  have hg := greets_s a b sh m hsh hx hB hl
  have hr := refGreets_s a b sh m hsh hx hB hl
  show Fn Try.prog 3 [.p (.v (.string a)), .p (.v (.string b)), .p (.v (.string sh)), .agg m.cells, .p (.v (.int .i64 mine)), .p (.v (.string nc)), .p (.v (.int .i64 now))] (.p (.v (.bool true))) []
  unfold sRes at hg hr
  generalize (if greE a b sh m = 0 then greN m else ⟨#[]⟩) = g1 at hg hr
  by_cases h0 : ansE a b sh nc m mine now = 0
  · rw [ansR_good h0] at hp hq
    have hS := sameMsg_s (ansM a b sh nc m mine)
    generalize ansM a b sh nc m mine = M at *
    generalize mkKY (ansK a b sh) (greN m) nc false mine m.s now = kk at *
    generalize greE a b sh m = ge at *
    refine fn_intro Try.func3 rfl (Nat.le_of_ble_eq_true rfl) fun w0 A => ?_
    refine awp_seq ?_
    refine awp_text (by kernel_rfl) ?_
    (refine r_run (a_box (X := .agg _) 10 rfl) rfl rfl ⟨rfl, trivial⟩ ?_)
    (refine r_pure (a_assign (r := .p _)) rfl rfl ?_)
    refine arun_nil ?_
    refine awp_seq ?_
    refine awp_text (by kernel_rfl) ?_
    (refine r_pure (a_move (r := .p _)) rfl rfl ?_)
    (refine r_pure (a_move (r := .p _)) rfl rfl ?_)
    (refine r_pure (a_move (r := .p _)) rfl rfl ?_)
    (refine r_run (a_loadN Try.underlying24 rfl sz24 (by first | exact Nat.le_of_ble_eq_true rfl | omega | (simp only [AV.cells, List.length_map]; omega)) (by first | exact take_all (by first | assumption | exact Nat.eq_of_beq_eq_true rfl | (simp only [AV.cells, List.length_map]; first | assumption | omega)) | (simp only [List.take_succ_cons, List.take_zero, List.drop_succ_cons, List.drop_zero]; rfl) | rfl)) rfl rfl ⟨rfl, trivial⟩ ?_)
    (refine r_callV (fun n => 30 + 1000 * n) (hg) rfl rfl Try.func4 rfl rfl (by first | rfl | simp [AV.noSl, AV.noSlL, AObj.noSl, PV.isV, bs_noSl]) (by first | rfl | simp [AV.noSl, AV.noSlL, AObj.noSl, PV.isV, bs_noSl]) rfl rfl rfl (by first | exact trivial | exact ⟨rfl, trivial⟩ | exact ⟨rfl, rfl, trivial⟩) rfl rfl rfl ?_)
    (refine r_pure (a_move (r := .tup _)) rfl rfl ?_)
    (refine r_pure (a_extract rfl) rfl rfl ?_)
    (refine r_pure (a_extract rfl) rfl rfl ?_)
    (refine r_pure (a_assign (r := .p _)) rfl rfl ?_)
    (refine r_pure (a_assign (r := .p _)) rfl rfl ?_)
    refine arun_nil ?_
    refine awp_seq ?_
    refine awp_text (by kernel_rfl) ?_
    (refine r_pure (a_move (r := .p _)) rfl rfl ?_)
    (refine r_pure (a_move (r := .p _)) rfl rfl ?_)
    (refine r_pure (a_move (r := .p _)) rfl rfl ?_)
    (refine r_run (a_loadN Try.underlying24 rfl sz24 (by first | exact Nat.le_of_ble_eq_true rfl | omega | (simp only [AV.cells, List.length_map]; omega)) (by first | exact take_all (by first | assumption | exact Nat.eq_of_beq_eq_true rfl | (simp only [AV.cells, List.length_map]; first | assumption | omega)) | (simp only [List.take_succ_cons, List.take_zero, List.drop_succ_cons, List.drop_zero]; rfl) | rfl)) rfl rfl ⟨rfl, trivial⟩ ?_)
    (refine r_pure (a_move (r := .p _)) rfl rfl ?_)
    (refine r_pure (a_move (r := .p _)) rfl rfl ?_)
    (refine r_pure (a_move (r := .p _)) rfl rfl ?_)
    (refine r_callS (fun n => 41 + 1000 * n) (hp) rfl rfl Try.func5 rfl rfl (by first | rfl | simp [AV.okInL, AV.okIn, okInL_map]) rfl rfl rfl (by first | exact trivial | exact ⟨rfl, trivial⟩ | exact ⟨rfl, rfl, trivial⟩) rfl rfl rfl ?_)
    (refine r_pure (a_move (r := .tup _)) rfl rfl ?_)
    (refine r_pure (a_extract rfl) rfl rfl ?_)
    (refine r_pure (a_extract rfl) rfl rfl ?_)
    (refine r_pure (a_extract rfl) rfl rfl ?_)
    (refine r_run (a_alloc 17 zr24 rfl) rfl rfl ⟨rfl, trivial⟩ ?_)
    (refine r_run (a_alloc 18 zr32 rfl) rfl rfl ⟨rfl, trivial⟩ ?_)
    (refine r_run (a_storeAll (Y := .agg _) sz24 rfl (by first | exact Nat.eq_of_beq_eq_true rfl | (simp only [AV.cells, List.length_map]; first | assumption | omega)) (Nat.eq_of_beq_eq_true rfl)) rfl rfl ⟨rfl, trivial⟩ ?_)
    refine r_run (a_storeAll (Y := .agg kk.cells) sz32 rfl rfl (Nat.eq_of_beq_eq_true rfl)) rfl rfl ⟨rfl, trivial⟩ ?_
    (refine r_pure (a_assign (r := .p _)) rfl rfl ?_)
    refine arun_nil ?_
    refine awp_seq ?_
    refine awp_text (by kernel_rfl) ?_
    (refine r_pure (a_move (r := .p _)) rfl rfl ?_)
    (refine r_pure (a_move (r := .p _)) rfl rfl ?_)
    (refine r_pure (a_move (r := .p _)) rfl rfl ?_)
    (refine r_run (a_loadN Try.underlying24 rfl sz24 (by first | exact Nat.le_of_ble_eq_true rfl | omega | (simp only [AV.cells, List.length_map]; omega)) (by first | exact take_all (by first | assumption | exact Nat.eq_of_beq_eq_true rfl | (simp only [AV.cells, List.length_map]; first | assumption | omega)) | (simp only [List.take_succ_cons, List.take_zero, List.drop_succ_cons, List.drop_zero]; rfl) | rfl)) rfl rfl ⟨rfl, trivial⟩ ?_)
    (refine r_callV (fun n => 50 + 1000 * n) (hr) rfl rfl Try.func6 rfl rfl (by first | rfl | simp [AV.noSl, AV.noSlL, AObj.noSl, PV.isV, bs_noSl]) (by first | rfl | simp [AV.noSl, AV.noSlL, AObj.noSl, PV.isV, bs_noSl]) rfl rfl rfl (by first | exact trivial | exact ⟨rfl, trivial⟩ | exact ⟨rfl, rfl, trivial⟩) rfl rfl rfl ?_)
    (refine r_pure (a_move (r := .tup _)) rfl rfl ?_)
    (refine r_pure (a_extract rfl) rfl rfl ?_)
    (refine r_pure (a_extract rfl) rfl rfl ?_)
    (refine r_pure (a_assign (r := .p _)) rfl rfl ?_)
    (refine r_pure (a_assign (r := .p _)) rfl rfl ?_)
    refine arun_nil ?_
    refine awp_seq ?_
    refine awp_text (by kernel_rfl) ?_
    (refine r_pure (a_move (r := .p _)) rfl rfl ?_)
    (refine r_pure (a_move (r := .p _)) rfl rfl ?_)
    (refine r_pure (a_move (r := .p _)) rfl rfl ?_)
    (refine r_run (a_loadN Try.underlying24 rfl sz24 (by first | exact Nat.le_of_ble_eq_true rfl | omega | (simp only [AV.cells, List.length_map]; omega)) (by first | exact take_all (by first | assumption | exact Nat.eq_of_beq_eq_true rfl | (simp only [AV.cells, List.length_map]; first | assumption | omega)) | (simp only [List.take_succ_cons, List.take_zero, List.drop_succ_cons, List.drop_zero]; rfl) | rfl)) rfl rfl ⟨rfl, trivial⟩ ?_)
    (refine r_pure (a_move (r := .p _)) rfl rfl ?_)
    (refine r_pure (a_move (r := .p _)) rfl rfl ?_)
    (refine r_pure (a_move (r := .p _)) rfl rfl ?_)
    (refine r_callS (fun n => 61 + 1000 * n) (hq) rfl rfl Try.func7 rfl rfl (by first | rfl | simp [AV.okInL, AV.okIn, okInL_map]) rfl rfl rfl (by first | exact trivial | exact ⟨rfl, trivial⟩ | exact ⟨rfl, rfl, trivial⟩) rfl rfl rfl ?_)
    (refine r_pure (a_move (r := .tup _)) rfl rfl ?_)
    (refine r_pure (a_extract rfl) rfl rfl ?_)
    (refine r_pure (a_extract rfl) rfl rfl ?_)
    (refine r_pure (a_extract rfl) rfl rfl ?_)
    (refine r_run (a_alloc 22 zr24 rfl) rfl rfl ⟨rfl, trivial⟩ ?_)
    (refine r_run (a_alloc 23 zr32 rfl) rfl rfl ⟨rfl, trivial⟩ ?_)
    (refine r_run (a_storeAll (Y := .agg _) sz24 rfl (by first | exact Nat.eq_of_beq_eq_true rfl | (simp only [AV.cells, List.length_map]; first | assumption | omega)) (Nat.eq_of_beq_eq_true rfl)) rfl rfl ⟨rfl, trivial⟩ ?_)
    refine r_run (a_storeAll (Y := .agg kk.cells) sz32 rfl rfl (Nat.eq_of_beq_eq_true rfl)) rfl rfl ⟨rfl, trivial⟩ ?_
    (refine r_pure (a_assign (r := .p _)) rfl rfl ?_)
    refine arun_nil ?_
    refine awp_seq ?_
    refine awp_text (by kernel_rfl) ?_
    (refine r_pure (a_move (r := .p _)) rfl rfl ?_)
    (refine r_pure (a_move (r := .p _)) rfl rfl ?_)
    (refine r_pure a_seqlT rfl rfl ?_)
    (refine r_pure (a_move (r := .p _)) rfl rfl ?_)
    (refine r_pure (a_move (r := .p _)) rfl rfl ?_)
    (refine r_pure (a_move (r := .p _)) rfl rfl ?_)
    (refine r_pure a_eqlT rfl rfl ?_)
    (refine r_pure a_pickT rfl rfl ?_)
    (refine r_pure (a_move (r := .p _)) rfl rfl ?_)
    (refine r_run (a_loadN Try.underlying24 rfl sz24 (by first | exact Nat.le_of_ble_eq_true rfl | omega | (simp only [AV.cells, List.length_map]; omega)) (by first | exact take_all (by first | assumption | exact Nat.eq_of_beq_eq_true rfl | (simp only [AV.cells, List.length_map]; first | assumption | omega)) | (simp only [List.take_succ_cons, List.take_zero, List.drop_succ_cons, List.drop_zero]; rfl) | rfl)) rfl rfl ⟨rfl, trivial⟩ ?_)
    (refine r_run (a_loadN Try.underlying24 rfl sz24 (by first | exact Nat.le_of_ble_eq_true rfl | omega | (simp only [AV.cells, List.length_map]; omega)) (by first | exact take_all (by first | assumption | exact Nat.eq_of_beq_eq_true rfl | (simp only [AV.cells, List.length_map]; first | assumption | omega)) | (simp only [List.take_succ_cons, List.take_zero, List.drop_succ_cons, List.drop_zero]; rfl) | rfl)) rfl rfl ⟨rfl, trivial⟩ ?_)
    (refine r_callS (fun n => 76 + 1000 * n) (hS) rfl rfl Try.func8 rfl rfl (by first | rfl | simp [AV.okInL, AV.okIn, okInL_map]) rfl rfl rfl (by first | exact trivial | exact ⟨rfl, trivial⟩ | exact ⟨rfl, rfl, trivial⟩) rfl rfl rfl ?_)
    (refine r_pure a_pickT rfl rfl ?_)
    (refine r_pure (a_move (r := .p _)) rfl rfl ?_)
    (refine r_run (a_loadN Try.underlying32 rfl sz32 (by first | exact Nat.le_of_ble_eq_true rfl | omega | (simp only [AV.cells, List.length_map]; omega)) (by first | exact take_all (by first | assumption | exact Nat.eq_of_beq_eq_true rfl | (simp only [AV.cells, List.length_map]; first | assumption | omega)) | (simp only [List.take_succ_cons, List.take_zero, List.drop_succ_cons, List.drop_zero]; rfl) | rfl)) rfl rfl ⟨rfl, trivial⟩ ?_)
    (refine r_run (a_loadN Try.underlying32 rfl sz32 (by first | exact Nat.le_of_ble_eq_true rfl | omega | (simp only [AV.cells, List.length_map]; omega)) (by first | exact take_all (by first | assumption | exact Nat.eq_of_beq_eq_true rfl | (simp only [AV.cells, List.length_map]; first | assumption | omega)) | (simp only [List.take_succ_cons, List.take_zero, List.drop_succ_cons, List.drop_zero]; rfl) | rfl)) rfl rfl ⟨rfl, trivial⟩ ?_)
    (refine r_pure (a_steqT Try.underlying32 rfl (by kernel_rfl) (by kernel_rfl)) rfl rfl ?_)
    (refine r_pure a_pickT rfl rfl ?_)
    (refine r_pure (a_move (r := .p _)) rfl rfl ?_)
    (refine r_pure (a_move (r := .p _)) rfl rfl ?_)
    (refine r_pure (a_move (r := .p _)) rfl rfl ?_)
    (refine r_pure a_eqlT rfl rfl ?_)
    (refine r_pure a_pickT rfl rfl ?_)
    (refine r_pure (a_assign (r := .p _)) rfl rfl ?_)
    refine arun_nil ?_
    refine awp_ret ?_
    refine ⟨(by first | exact .inl rfl | exact .inr rfl), _, (fun o => o), (.tmp _ _ _ _ rfl .nil), ?_, rfl, ?_, rfl⟩
    · exact rfl
    · exact trivial
  · rw [ansR_bad rfl h0] at hp hq
    have hS := sameMsg0_s
    generalize ansE a b sh nc m mine now = e at *
    generalize greE a b sh m = ge at *
    refine fn_intro Try.func3 rfl (Nat.le_of_ble_eq_true rfl) fun w0 A => ?_
    refine awp_seq ?_
    refine awp_text (by kernel_rfl) ?_
    (refine r_run (a_box (X := .agg _) 10 rfl) rfl rfl ⟨rfl, trivial⟩ ?_)
    (refine r_pure (a_assign (r := .p _)) rfl rfl ?_)
    refine arun_nil ?_
    refine awp_seq ?_
    refine awp_text (by kernel_rfl) ?_
    (refine r_pure (a_move (r := .p _)) rfl rfl ?_)
    (refine r_pure (a_move (r := .p _)) rfl rfl ?_)
    (refine r_pure (a_move (r := .p _)) rfl rfl ?_)
    (refine r_run (a_loadN Try.underlying24 rfl sz24 (by first | exact Nat.le_of_ble_eq_true rfl | omega | (simp only [AV.cells, List.length_map]; omega)) (by first | exact take_all (by first | assumption | exact Nat.eq_of_beq_eq_true rfl | (simp only [AV.cells, List.length_map]; first | assumption | omega)) | (simp only [List.take_succ_cons, List.take_zero, List.drop_succ_cons, List.drop_zero]; rfl) | rfl)) rfl rfl ⟨rfl, trivial⟩ ?_)
    (refine r_callV (fun n => 30 + 1000 * n) (hg) rfl rfl Try.func4 rfl rfl (by first | rfl | simp [AV.noSl, AV.noSlL, AObj.noSl, PV.isV, bs_noSl]) (by first | rfl | simp [AV.noSl, AV.noSlL, AObj.noSl, PV.isV, bs_noSl]) rfl rfl rfl (by first | exact trivial | exact ⟨rfl, trivial⟩ | exact ⟨rfl, rfl, trivial⟩) rfl rfl rfl ?_)
    (refine r_pure (a_move (r := .tup _)) rfl rfl ?_)
    (refine r_pure (a_extract rfl) rfl rfl ?_)
    (refine r_pure (a_extract rfl) rfl rfl ?_)
    (refine r_pure (a_assign (r := .p _)) rfl rfl ?_)
    (refine r_pure (a_assign (r := .p _)) rfl rfl ?_)
    refine arun_nil ?_
    refine awp_seq ?_
    refine awp_text (by kernel_rfl) ?_
    (refine r_pure (a_move (r := .p _)) rfl rfl ?_)
    (refine r_pure (a_move (r := .p _)) rfl rfl ?_)
    (refine r_pure (a_move (r := .p _)) rfl rfl ?_)
    (refine r_run (a_loadN Try.underlying24 rfl sz24 (by first | exact Nat.le_of_ble_eq_true rfl | omega | (simp only [AV.cells, List.length_map]; omega)) (by first | exact take_all (by first | assumption | exact Nat.eq_of_beq_eq_true rfl | (simp only [AV.cells, List.length_map]; first | assumption | omega)) | (simp only [List.take_succ_cons, List.take_zero, List.drop_succ_cons, List.drop_zero]; rfl) | rfl)) rfl rfl ⟨rfl, trivial⟩ ?_)
    (refine r_pure (a_move (r := .p _)) rfl rfl ?_)
    (refine r_pure (a_move (r := .p _)) rfl rfl ?_)
    (refine r_pure (a_move (r := .p _)) rfl rfl ?_)
    (refine r_callS (fun n => 41 + 1000 * n) (hp) rfl rfl Try.func5 rfl rfl (by first | rfl | simp [AV.okInL, AV.okIn, okInL_map]) rfl rfl rfl (by first | exact trivial | exact ⟨rfl, trivial⟩ | exact ⟨rfl, rfl, trivial⟩) rfl rfl rfl ?_)
    (refine r_pure (a_move (r := .tup _)) rfl rfl ?_)
    (refine r_pure (a_extract rfl) rfl rfl ?_)
    (refine r_pure (a_extract rfl) rfl rfl ?_)
    (refine r_pure (a_extract rfl) rfl rfl ?_)
    (refine r_run (a_alloc 17 zr24 rfl) rfl rfl ⟨rfl, trivial⟩ ?_)
    (refine r_run (a_alloc 18 zr32 rfl) rfl rfl ⟨rfl, trivial⟩ ?_)
    (refine r_run (a_storeAll (Y := .agg _) sz24 rfl (by first | exact Nat.eq_of_beq_eq_true rfl | (simp only [AV.cells, List.length_map]; first | assumption | omega)) (Nat.eq_of_beq_eq_true rfl)) rfl rfl ⟨rfl, trivial⟩ ?_)
    refine r_run (a_storeAll (Y := .agg KY0.cells) sz32 rfl rfl (Nat.eq_of_beq_eq_true rfl)) rfl rfl ⟨rfl, trivial⟩ ?_
    (refine r_pure (a_assign (r := .p _)) rfl rfl ?_)
    refine arun_nil ?_
    refine awp_seq ?_
    refine awp_text (by kernel_rfl) ?_
    (refine r_pure (a_move (r := .p _)) rfl rfl ?_)
    (refine r_pure (a_move (r := .p _)) rfl rfl ?_)
    (refine r_pure (a_move (r := .p _)) rfl rfl ?_)
    (refine r_run (a_loadN Try.underlying24 rfl sz24 (by first | exact Nat.le_of_ble_eq_true rfl | omega | (simp only [AV.cells, List.length_map]; omega)) (by first | exact take_all (by first | assumption | exact Nat.eq_of_beq_eq_true rfl | (simp only [AV.cells, List.length_map]; first | assumption | omega)) | (simp only [List.take_succ_cons, List.take_zero, List.drop_succ_cons, List.drop_zero]; rfl) | rfl)) rfl rfl ⟨rfl, trivial⟩ ?_)
    (refine r_callV (fun n => 50 + 1000 * n) (hr) rfl rfl Try.func6 rfl rfl (by first | rfl | simp [AV.noSl, AV.noSlL, AObj.noSl, PV.isV, bs_noSl]) (by first | rfl | simp [AV.noSl, AV.noSlL, AObj.noSl, PV.isV, bs_noSl]) rfl rfl rfl (by first | exact trivial | exact ⟨rfl, trivial⟩ | exact ⟨rfl, rfl, trivial⟩) rfl rfl rfl ?_)
    (refine r_pure (a_move (r := .tup _)) rfl rfl ?_)
    (refine r_pure (a_extract rfl) rfl rfl ?_)
    (refine r_pure (a_extract rfl) rfl rfl ?_)
    (refine r_pure (a_assign (r := .p _)) rfl rfl ?_)
    (refine r_pure (a_assign (r := .p _)) rfl rfl ?_)
    refine arun_nil ?_
    refine awp_seq ?_
    refine awp_text (by kernel_rfl) ?_
    (refine r_pure (a_move (r := .p _)) rfl rfl ?_)
    (refine r_pure (a_move (r := .p _)) rfl rfl ?_)
    (refine r_pure (a_move (r := .p _)) rfl rfl ?_)
    (refine r_run (a_loadN Try.underlying24 rfl sz24 (by first | exact Nat.le_of_ble_eq_true rfl | omega | (simp only [AV.cells, List.length_map]; omega)) (by first | exact take_all (by first | assumption | exact Nat.eq_of_beq_eq_true rfl | (simp only [AV.cells, List.length_map]; first | assumption | omega)) | (simp only [List.take_succ_cons, List.take_zero, List.drop_succ_cons, List.drop_zero]; rfl) | rfl)) rfl rfl ⟨rfl, trivial⟩ ?_)
    (refine r_pure (a_move (r := .p _)) rfl rfl ?_)
    (refine r_pure (a_move (r := .p _)) rfl rfl ?_)
    (refine r_pure (a_move (r := .p _)) rfl rfl ?_)
    (refine r_callS (fun n => 61 + 1000 * n) (hq) rfl rfl Try.func7 rfl rfl (by first | rfl | simp [AV.okInL, AV.okIn, okInL_map]) rfl rfl rfl (by first | exact trivial | exact ⟨rfl, trivial⟩ | exact ⟨rfl, rfl, trivial⟩) rfl rfl rfl ?_)
    (refine r_pure (a_move (r := .tup _)) rfl rfl ?_)
    (refine r_pure (a_extract rfl) rfl rfl ?_)
    (refine r_pure (a_extract rfl) rfl rfl ?_)
    (refine r_pure (a_extract rfl) rfl rfl ?_)
    (refine r_run (a_alloc 22 zr24 rfl) rfl rfl ⟨rfl, trivial⟩ ?_)
    (refine r_run (a_alloc 23 zr32 rfl) rfl rfl ⟨rfl, trivial⟩ ?_)
    (refine r_run (a_storeAll (Y := .agg _) sz24 rfl (by first | exact Nat.eq_of_beq_eq_true rfl | (simp only [AV.cells, List.length_map]; first | assumption | omega)) (Nat.eq_of_beq_eq_true rfl)) rfl rfl ⟨rfl, trivial⟩ ?_)
    refine r_run (a_storeAll (Y := .agg KY0.cells) sz32 rfl rfl (Nat.eq_of_beq_eq_true rfl)) rfl rfl ⟨rfl, trivial⟩ ?_
    (refine r_pure (a_assign (r := .p _)) rfl rfl ?_)
    refine arun_nil ?_
    refine awp_seq ?_
    refine awp_text (by kernel_rfl) ?_
    (refine r_pure (a_move (r := .p _)) rfl rfl ?_)
    (refine r_pure (a_move (r := .p _)) rfl rfl ?_)
    (refine r_pure a_seqlT rfl rfl ?_)
    (refine r_pure (a_move (r := .p _)) rfl rfl ?_)
    (refine r_pure (a_move (r := .p _)) rfl rfl ?_)
    (refine r_pure (a_move (r := .p _)) rfl rfl ?_)
    (refine r_pure a_eqlT rfl rfl ?_)
    (refine r_pure a_pickT rfl rfl ?_)
    (refine r_pure (a_move (r := .p _)) rfl rfl ?_)
    (refine r_run (a_loadN Try.underlying24 rfl sz24 (by first | exact Nat.le_of_ble_eq_true rfl | omega | (simp only [AV.cells, List.length_map]; omega)) (by first | exact take_all (by first | assumption | exact Nat.eq_of_beq_eq_true rfl | (simp only [AV.cells, List.length_map]; first | assumption | omega)) | (simp only [List.take_succ_cons, List.take_zero, List.drop_succ_cons, List.drop_zero]; rfl) | rfl)) rfl rfl ⟨rfl, trivial⟩ ?_)
    (refine r_run (a_loadN Try.underlying24 rfl sz24 (by first | exact Nat.le_of_ble_eq_true rfl | omega | (simp only [AV.cells, List.length_map]; omega)) (by first | exact take_all (by first | assumption | exact Nat.eq_of_beq_eq_true rfl | (simp only [AV.cells, List.length_map]; first | assumption | omega)) | (simp only [List.take_succ_cons, List.take_zero, List.drop_succ_cons, List.drop_zero]; rfl) | rfl)) rfl rfl ⟨rfl, trivial⟩ ?_)
    (refine r_callS (fun n => 76 + 1000 * n) (hS) rfl rfl Try.func8 rfl rfl (by first | rfl | simp [AV.okInL, AV.okIn, okInL_map]) rfl rfl rfl (by first | exact trivial | exact ⟨rfl, trivial⟩ | exact ⟨rfl, rfl, trivial⟩) rfl rfl rfl ?_)
    (refine r_pure a_pickT rfl rfl ?_)
    (refine r_pure (a_move (r := .p _)) rfl rfl ?_)
    (refine r_run (a_loadN Try.underlying32 rfl sz32 (by first | exact Nat.le_of_ble_eq_true rfl | omega | (simp only [AV.cells, List.length_map]; omega)) (by first | exact take_all (by first | assumption | exact Nat.eq_of_beq_eq_true rfl | (simp only [AV.cells, List.length_map]; first | assumption | omega)) | (simp only [List.take_succ_cons, List.take_zero, List.drop_succ_cons, List.drop_zero]; rfl) | rfl)) rfl rfl ⟨rfl, trivial⟩ ?_)
    (refine r_run (a_loadN Try.underlying32 rfl sz32 (by first | exact Nat.le_of_ble_eq_true rfl | omega | (simp only [AV.cells, List.length_map]; omega)) (by first | exact take_all (by first | assumption | exact Nat.eq_of_beq_eq_true rfl | (simp only [AV.cells, List.length_map]; first | assumption | omega)) | (simp only [List.take_succ_cons, List.take_zero, List.drop_succ_cons, List.drop_zero]; rfl) | rfl)) rfl rfl ⟨rfl, trivial⟩ ?_)
    (refine r_pure (a_steqT Try.underlying32 rfl (by kernel_rfl) (by kernel_rfl)) rfl rfl ?_)
    (refine r_pure a_pickT rfl rfl ?_)
    (refine r_pure (a_move (r := .p _)) rfl rfl ?_)
    (refine r_pure (a_move (r := .p _)) rfl rfl ?_)
    (refine r_pure (a_move (r := .p _)) rfl rfl ?_)
    (refine r_pure a_eqlT rfl rfl ?_)
    (refine r_pure a_pickT rfl rfl ?_)
    (refine r_pure (a_assign (r := .p _)) rfl rfl ?_)
    refine arun_nil ?_
    refine awp_ret ?_
    refine ⟨(by first | exact .inl rfl | exact .inr rfl), _, (fun o => o), (.tmp _ _ _ _ rfl .nil), ?_, rfl, ?_, rfl⟩
    · exact rfl
    · exact trivial
end Go.Proofs.Ytmdkfhmmhiofbaa
