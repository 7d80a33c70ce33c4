/- The law PacketDecodes, over data. -/
import Derived.Test.YtfnipohlkifkhaaPk3
--%T
namespace Go.Proofs.Ytfnipohlkifkhaa
open Go.RowKit Go.Sort
set_option linter.unusedVariables false
set_option linter.unusedSimpArgs false
set_option maxRecDepth 100000

/-! the law -/
theorem samePk_s (a b n : Nat) (xs : List Int) : Fn Try.prog 32 [.agg (pkt a b n xs), .agg (pkt a b n xs)] (.p (.v (.bool true))) [] := by
  have hS := same_eq n n xs
  unfold pkt
  refine fn_intro Try.func32 rfl (Nat.le_of_ble_eq_true rfl) fun w0 A => ?_
  refine awp_seq ?_
  refine awp_text (by kernel_rfl) ?_
  (refine r_run (a_box (X := .agg _) 2 rfl) rfl rfl ⟨rfl, trivial⟩ ?_)
  (refine r_run (a_box (X := .agg _) 3 rfl) rfl rfl ⟨rfl, trivial⟩ ?_)
  (refine r_pure (a_assign (r := .p _)) rfl rfl ?_)
  refine arun_nil ?_
  refine awp_seq ?_
  refine awp_text (by kernel_rfl) ?_
  (refine r_pure (b_fieldAddr fi44_0 rfl) rfl rfl ?_)
  (refine r_run (a_load1 Try.underlying26 rfl (by first | rfl | assumption)) rfl rfl ⟨rfl, trivial⟩ ?_)
  (refine r_pure (b_fieldAddr fi44_0 rfl) rfl rfl ?_)
  (refine r_run (a_load1 Try.underlying26 rfl (by first | rfl | assumption)) rfl rfl ⟨rfl, trivial⟩ ?_)
  (refine r_pure a_eqlT rfl rfl ?_)
  (refine r_pure (a_move (r := .p _)) rfl rfl ?_)
  (first | refine r_skipG rfl ?_ | refine r_pure (b_fieldAddr fi44_1 rfl) rfl rfl ?_)
  (first | refine r_skipG rfl ?_ | refine r_run (a_load1 Try.underlying26 rfl (by first | rfl | assumption)) rfl rfl ⟨rfl, trivial⟩ ?_)
  (first | refine r_skipG rfl ?_ | refine r_pure (b_fieldAddr fi44_1 rfl) rfl rfl ?_)
  (first | refine r_skipG rfl ?_ | refine r_run (a_load1 Try.underlying26 rfl (by first | rfl | assumption)) rfl rfl ⟨rfl, trivial⟩ ?_)
  (refine r_pure a_eqlT rfl rfl ?_)
  (refine r_pure a_pickT rfl rfl ?_)
  (refine r_pure (a_move (r := .p _)) rfl rfl ?_)
  (first | refine r_skipG rfl ?_ | refine r_pure (b_fieldAddr fi44_2 rfl) rfl rfl ?_)
  (first | refine r_skipG rfl ?_ | refine r_run (a_load1 Try.underlying42 rfl (by first | rfl | assumption)) rfl rfl ⟨rfl, trivial⟩ ?_)
  (first | refine r_skipG rfl ?_ | refine r_pure (b_fieldAddr fi44_2 rfl) rfl rfl ?_)
  (first | refine r_skipG rfl ?_ | refine r_run (a_load1 Try.underlying42 rfl (by first | rfl | assumption)) rfl rfl ⟨rfl, trivial⟩ ?_)
  (refine r_callS (fun n => 22 + 1000 * n) (hS) rfl rfl Try.func49 rfl rfl (by first | rfl | simp [AV.okInL, AV.okIn, okInL_map]) rfl rfl rfl (by first | exact trivial | exact ⟨rfl, trivial⟩ | exact ⟨rfl, rfl, trivial⟩) rfl rfl rfl ?_)
  (refine r_pure a_pickT rfl rfl ?_)
  (refine r_pure (a_assign (r := .p _)) rfl rfl ?_)
  refine arun_nil ?_
  refine awp_ret ?_
  refine ⟨(by first | exact .inl rfl | exact .inr rfl), _, (fun o => o), (.tmp _ _ _ _ rfl .nil), ?_, rfl, ?_, rfl⟩
  · exact rfl
  · exact trivial
theorem samePk0_s : Fn Try.prog 32 [.agg [.p (.v (.int .u32 0)), .p (.v (.int .u32 0)), .p (.v (.slice none 0 0))], .agg [.p (.v (.int .u32 0)), .p (.v (.int .u32 0)), .p (.v (.slice none 0 0))]] (.p (.v (.bool true))) [] := by
  have hS := same_nil
  refine fn_intro Try.func32 rfl (Nat.le_of_ble_eq_true rfl) fun w0 A => ?_
  refine awp_seq ?_
  refine awp_text (by kernel_rfl) ?_
  (refine r_run (a_box (X := .agg _) 2 rfl) rfl rfl ⟨rfl, trivial⟩ ?_)
  (refine r_run (a_box (X := .agg _) 3 rfl) rfl rfl ⟨rfl, trivial⟩ ?_)
  (refine r_pure (a_assign (r := .p _)) rfl rfl ?_)
  refine arun_nil ?_
  refine awp_seq ?_
  refine awp_text (by kernel_rfl) ?_
  (refine r_pure (b_fieldAddr fi44_0 rfl) rfl rfl ?_)
  (refine r_run (a_load1 Try.underlying26 rfl (by first | rfl | assumption)) rfl rfl ⟨rfl, trivial⟩ ?_)
  (refine r_pure (b_fieldAddr fi44_0 rfl) rfl rfl ?_)
  (refine r_run (a_load1 Try.underlying26 rfl (by first | rfl | assumption)) rfl rfl ⟨rfl, trivial⟩ ?_)
  (refine r_pure a_eqlT rfl rfl ?_)
  (refine r_pure (a_move (r := .p _)) rfl rfl ?_)
  (first | refine r_skipG rfl ?_ | refine r_pure (b_fieldAddr fi44_1 rfl) rfl rfl ?_)
  (first | refine r_skipG rfl ?_ | refine r_run (a_load1 Try.underlying26 rfl (by first | rfl | assumption)) rfl rfl ⟨rfl, trivial⟩ ?_)
  (first | refine r_skipG rfl ?_ | refine r_pure (b_fieldAddr fi44_1 rfl) rfl rfl ?_)
  (first | refine r_skipG rfl ?_ | refine r_run (a_load1 Try.underlying26 rfl (by first | rfl | assumption)) rfl rfl ⟨rfl, trivial⟩ ?_)
  (refine r_pure a_eqlT rfl rfl ?_)
  (refine r_pure a_pickT rfl rfl ?_)
  (refine r_pure (a_move (r := .p _)) rfl rfl ?_)
  (first | refine r_skipG rfl ?_ | refine r_pure (b_fieldAddr fi44_2 rfl) rfl rfl ?_)
  (first | refine r_skipG rfl ?_ | refine r_run (a_load1 Try.underlying42 rfl (by first | rfl | assumption)) rfl rfl ⟨rfl, trivial⟩ ?_)
  (first | refine r_skipG rfl ?_ | refine r_pure (b_fieldAddr fi44_2 rfl) rfl rfl ?_)
  (first | refine r_skipG rfl ?_ | refine r_run (a_load1 Try.underlying42 rfl (by first | rfl | assumption)) rfl rfl ⟨rfl, trivial⟩ ?_)
  (refine r_callS (fun n => 22 + 1000 * n) (hS) rfl rfl Try.func49 rfl rfl (by first | rfl | simp [AV.okInL, AV.okIn, okInL_map]) rfl rfl rfl (by first | exact trivial | exact ⟨rfl, trivial⟩ | exact ⟨rfl, rfl, trivial⟩) rfl rfl rfl ?_)
  (refine r_pure a_pickT rfl rfl ?_)
  (refine r_pure (a_assign (r := .p _)) rfl rfl ?_)
  refine arun_nil ?_
  refine awp_ret ?_
  refine ⟨(by first | exact .inl rfl | exact .inr rfl), _, (fun o => o), (.tmp _ _ _ _ rfl .nil), ?_, rfl, ?_, rfl⟩
  · exact rfl
  · exact trivial

set_option maxHeartbeats 1000000 in
theorem law_PacketDecodes (x0 : List PV) (ty0 : Ty Try.prog 10 42 x0) : Fn Try.prog 8 [argAV false x0] (.p (.v (.bool true))) [] := by
  obtain ⟨xs, rfl, hl, hB⟩ := ty_bytesS Try.underlying42 Try.underlying5 (by kernel_rfl) (by kernel_rfl) ty0
  replace hl : xs.length ≤ 140737488351232 := hl
  have p1 := dec_s xs.length xs rfl hB (by omega)
  have q1 := refOf_s xs.length xs rfl hB (by omega)
  show Fn Try.prog 8 [.p (.sl xs.length 1 (bs xs))] (.p (.v (.bool true))) []
  generalize xs.length = n at *
  by_cases h0 : pkE n xs = 0
  · have hS := samePk_s (adr xs 12) (adr xs 16) (n - 20) (xs.drop 20)
    rw [h0, pkV_good] at p1 q1
    generalize adr xs 12 = A1 at *
    generalize adr xs 16 = A2 at *
    generalize xs.drop 20 = D at *
    unfold pkt at *
    refine fn_intro Try.func8 rfl (Nat.le_of_ble_eq_true rfl) fun w0 A => ?_
    refine awp_seq ?_
    refine awp_text (by kernel_rfl) ?_
    (refine r_pure (a_assign (r := .p _)) rfl rfl ?_)
    refine arun_nil ?_
    refine awp_seq ?_
    refine awp_text (by kernel_rfl) ?_
    (refine r_pure (a_move (r := .p _)) rfl rfl ?_)
    (refine r_callS (fun n => 9 + 1000 * n) (p1) rfl rfl Try.func30 rfl rfl (by first | rfl | simp [AV.okInL, AV.okIn, okInL_map]) rfl rfl rfl (by first | exact trivial | exact ⟨rfl, trivial⟩ | exact ⟨rfl, rfl, trivial⟩) rfl rfl rfl ?_)
    (refine r_pure (a_move (r := .tup _)) rfl rfl ?_)
    (refine r_pure (a_extract rfl) rfl rfl ?_)
    (refine r_pure (a_extract rfl) rfl rfl ?_)
    (refine r_run (a_alloc 3 zr44 rfl) rfl rfl ⟨rfl, trivial⟩ ?_)
    (refine r_run (a_storeAll (Y := .agg _) sz44 rfl (by first | exact Nat.eq_of_beq_eq_true rfl | (simp only [AV.cells, List.length_map]; first | assumption | omega)) (Nat.eq_of_beq_eq_true rfl)) rfl rfl ⟨rfl, trivial⟩ ?_)
    (refine r_pure (a_assign (r := .p _)) rfl rfl ?_)
    refine arun_nil ?_
    refine awp_seq ?_
    refine awp_text (by kernel_rfl) ?_
    (refine r_pure (a_move (r := .p _)) rfl rfl ?_)
    (refine r_callS (fun n => 14 + 1000 * n) (q1) rfl rfl Try.func31 rfl rfl (by first | rfl | simp [AV.okInL, AV.okIn, okInL_map]) rfl rfl rfl (by first | exact trivial | exact ⟨rfl, trivial⟩ | exact ⟨rfl, rfl, trivial⟩) rfl rfl rfl ?_)
    (refine r_pure (a_move (r := .tup _)) rfl rfl ?_)
    (refine r_pure (a_extract rfl) rfl rfl ?_)
    (refine r_pure (a_extract rfl) rfl rfl ?_)
    (refine r_run (a_alloc 5 zr44 rfl) rfl rfl ⟨rfl, trivial⟩ ?_)
    (refine r_run (a_storeAll (Y := .agg _) sz44 rfl (by first | exact Nat.eq_of_beq_eq_true rfl | (simp only [AV.cells, List.length_map]; first | assumption | omega)) (Nat.eq_of_beq_eq_true rfl)) rfl rfl ⟨rfl, trivial⟩ ?_)
    (refine r_pure (a_assign (r := .p _)) rfl rfl ?_)
    refine arun_nil ?_
    refine awp_seq ?_
    refine awp_text (by kernel_rfl) ?_
    (refine r_run (a_loadN Try.underlying44 rfl sz44 (by first | exact Nat.le_of_ble_eq_true rfl | omega | (simp only [AV.cells, List.length_map]; omega)) (by first | exact take_all (by first | assumption | exact Nat.eq_of_beq_eq_true rfl | (simp only [AV.cells, List.length_map]; first | assumption | omega)) | (simp only [List.take_succ_cons, List.take_zero, List.drop_succ_cons, List.drop_zero]; rfl) | rfl)) rfl rfl ⟨rfl, trivial⟩ ?_)
    (refine r_run (a_loadN Try.underlying44 rfl sz44 (by first | exact Nat.le_of_ble_eq_true rfl | omega | (simp only [AV.cells, List.length_map]; omega)) (by first | exact take_all (by first | assumption | exact Nat.eq_of_beq_eq_true rfl | (simp only [AV.cells, List.length_map]; first | assumption | omega)) | (simp only [List.take_succ_cons, List.take_zero, List.drop_succ_cons, List.drop_zero]; rfl) | rfl)) rfl rfl ⟨rfl, trivial⟩ ?_)
    (refine r_callS (fun n => 19 + 1000 * n) (hS) rfl rfl Try.func32 rfl rfl (by first | rfl | simp [AV.okInL, AV.okIn, okInL_map]) rfl rfl rfl (by first | exact trivial | exact ⟨rfl, trivial⟩ | exact ⟨rfl, rfl, trivial⟩) rfl rfl rfl ?_)
    (refine r_pure (a_move (r := .p _)) rfl rfl ?_)
    (first | refine r_skipG rfl ?_ | refine r_pure (a_move (r := .p _)) rfl rfl ?_)
    (first | refine r_skipG rfl ?_ | refine r_pure (a_move (r := .p _)) rfl rfl ?_)
    (refine r_pure a_eqlT rfl rfl ?_)
    (refine r_pure a_pickT rfl rfl ?_)
    (refine r_pure (a_assign (r := .p _)) rfl rfl ?_)
    refine arun_nil ?_
    refine awp_ret ?_
    refine ⟨(by first | exact .inl rfl | exact .inr rfl), _, (fun o => o), (.tmp _ _ _ _ rfl .nil), ?_, rfl, ?_, rfl⟩
    · exact rfl
    · exact trivial
  · have hS := samePk0_s
    rw [pkV_bad h0] at p1 q1
    generalize pkE n xs = e at *
    refine fn_intro Try.func8 rfl (Nat.le_of_ble_eq_true rfl) fun w0 A => ?_
    refine awp_seq ?_
    refine awp_text (by kernel_rfl) ?_
    (refine r_pure (a_assign (r := .p _)) rfl rfl ?_)
    refine arun_nil ?_
    refine awp_seq ?_
    refine awp_text (by kernel_rfl) ?_
    (refine r_pure (a_move (r := .p _)) rfl rfl ?_)
    (refine r_callS (fun n => 9 + 1000 * n) (p1) rfl rfl Try.func30 rfl rfl (by first | rfl | simp [AV.okInL, AV.okIn, okInL_map]) rfl rfl rfl (by first | exact trivial | exact ⟨rfl, trivial⟩ | exact ⟨rfl, rfl, trivial⟩) rfl rfl rfl ?_)
    (refine r_pure (a_move (r := .tup _)) rfl rfl ?_)
    (refine r_pure (a_extract rfl) rfl rfl ?_)
    (refine r_pure (a_extract rfl) rfl rfl ?_)
    (refine r_run (a_alloc 3 zr44 rfl) rfl rfl ⟨rfl, trivial⟩ ?_)
    (refine r_run (a_storeAll (Y := .agg _) sz44 rfl (by first | exact Nat.eq_of_beq_eq_true rfl | (simp only [AV.cells, List.length_map]; first | assumption | omega)) (Nat.eq_of_beq_eq_true rfl)) rfl rfl ⟨rfl, trivial⟩ ?_)
    (refine r_pure (a_assign (r := .p _)) rfl rfl ?_)
    refine arun_nil ?_
    refine awp_seq ?_
    refine awp_text (by kernel_rfl) ?_
    (refine r_pure (a_move (r := .p _)) rfl rfl ?_)
    (refine r_callS (fun n => 14 + 1000 * n) (q1) rfl rfl Try.func31 rfl rfl (by first | rfl | simp [AV.okInL, AV.okIn, okInL_map]) rfl rfl rfl (by first | exact trivial | exact ⟨rfl, trivial⟩ | exact ⟨rfl, rfl, trivial⟩) rfl rfl rfl ?_)
    (refine r_pure (a_move (r := .tup _)) rfl rfl ?_)
    (refine r_pure (a_extract rfl) rfl rfl ?_)
    (refine r_pure (a_extract rfl) rfl rfl ?_)
    (refine r_run (a_alloc 5 zr44 rfl) rfl rfl ⟨rfl, trivial⟩ ?_)
    (refine r_run (a_storeAll (Y := .agg _) sz44 rfl (by first | exact Nat.eq_of_beq_eq_true rfl | (simp only [AV.cells, List.length_map]; first | assumption | omega)) (Nat.eq_of_beq_eq_true rfl)) rfl rfl ⟨rfl, trivial⟩ ?_)
    (refine r_pure (a_assign (r := .p _)) rfl rfl ?_)
    refine arun_nil ?_
    refine awp_seq ?_
    refine awp_text (by kernel_rfl) ?_
    (refine r_run (a_loadN Try.underlying44 rfl sz44 (by first | exact Nat.le_of_ble_eq_true rfl | omega | (simp only [AV.cells, List.length_map]; omega)) (by first | exact take_all (by first | assumption | exact Nat.eq_of_beq_eq_true rfl | (simp only [AV.cells, List.length_map]; first | assumption | omega)) | (simp only [List.take_succ_cons, List.take_zero, List.drop_succ_cons, List.drop_zero]; rfl) | rfl)) rfl rfl ⟨rfl, trivial⟩ ?_)
    (refine r_run (a_loadN Try.underlying44 rfl sz44 (by first | exact Nat.le_of_ble_eq_true rfl | omega | (simp only [AV.cells, List.length_map]; omega)) (by first | exact take_all (by first | assumption | exact Nat.eq_of_beq_eq_true rfl | (simp only [AV.cells, List.length_map]; first | assumption | omega)) | (simp only [List.take_succ_cons, List.take_zero, List.drop_succ_cons, List.drop_zero]; rfl) | rfl)) rfl rfl ⟨rfl, trivial⟩ ?_)
    (refine r_callS (fun n => 19 + 1000 * n) (hS) rfl rfl Try.func32 rfl rfl (by first | rfl | simp [AV.okInL, AV.okIn, okInL_map]) rfl rfl rfl (by first | exact trivial | exact ⟨rfl, trivial⟩ | exact ⟨rfl, rfl, trivial⟩) rfl rfl rfl ?_)
    (refine r_pure (a_move (r := .p _)) rfl rfl ?_)
    (first | refine r_skipG rfl ?_ | refine r_pure (a_move (r := .p _)) rfl rfl ?_)
    (first | refine r_skipG rfl ?_ | refine r_pure (a_move (r := .p _)) rfl rfl ?_)
    (refine r_pure a_eqlT rfl rfl ?_)
    (refine r_pure a_pickT rfl rfl ?_)
    (refine r_pure (a_assign (r := .p _)) rfl rfl ?_)
    refine arun_nil ?_
    refine awp_ret ?_
    refine ⟨(by first | exact .inl rfl | exact .inr rfl), _, (fun o => o), (.tmp _ _ _ _ rfl .nil), ?_, rfl, ?_, rfl⟩
    · exact rfl
    · exact trivial
end Go.Proofs.Ytfnipohlkifkhaa
