/- table.Turn, table.Confirm, and their references, over data. -/
import Derived.Test.YtfnipohlkifkhaaKy2
namespace Go.Proofs.Ytfnipohlkifkhaa
open Go.RowKit Go.Sort
set_option linter.unusedVariables false
set_option linter.unusedSimpArgs false
set_option maxRecDepth 100000

def slots (a b c : KY) : List AV := a.cells ++ b.cells ++ c.cells
def slotsV (a b c : KY) : List PV := a.pv ++ b.pv ++ c.pv
noncomputable def turnE (a b c k : KY) : Int := if kE a ≠ 0 then kE a else if kE b ≠ 0 then kE b else if kE c ≠ 0 then kE c else if kE k ≠ 0 then kE k else if k.live = false then 13 else 0
noncomputable def turnR (a b c k : KY) : List AV := if turnE a b c k ≠ 0 then slots KY0 KY0 KY0 else if k.first = true then slots k a KY0 else slots a b k
noncomputable def turnRes (a b c k : KY) : AV := .tup [.agg (turnR a b c k), .p (.v (.int .i64 (turnE a b c k)))]
theorem turnRes_bad {a b c k : KY} {e : Int} (h : turnE a b c k = e) (he : e ≠ 0) : turnRes a b c k = .tup [.agg (slots KY0 KY0 KY0), .p (.v (.int .i64 e))] := by
  unfold turnRes turnR; rw [h, if_pos he]
/-- the keys in their order -/
def four4 (a b c k : KY) (i : Nat) : KY := if i = 0 then a else if i = 1 then b else if i = 2 then c else k
noncomputable def firstE (a b c k : KY) (i : Nat) : Prop := (1 ≤ i → kE a = 0) ∧ (2 ≤ i → kE b = 0) ∧ (3 ≤ i → kE c = 0) ∧ (4 ≤ i → kE k = 0)
theorem four4_at (a b c k : KY) (i : Nat) (h : i < 4) : ((a.cells ++ b.cells ++ c.cells ++ k.cells).drop (i * 11)).take 11 = (four4 a b c k i).cells := by
  match i, h with
  | 0, _ => rfl
  | 1, _ => rfl
  | 2, _ => rfl
  | 3, _ => rfl
theorem four4_atV (a b c k : KY) (i : Nat) (h : i < 4) : ((a.pv ++ b.pv ++ c.pv ++ k.pv).drop (i * 11)).take 11 = (four4 a b c k i).pv := by
  match i, h with
  | 0, _ => rfl
  | 1, _ => rfl
  | 2, _ => rfl
  | 3, _ => rfl
theorem four4_ok {a b c k : KY} (ha : a.OK) (hb : b.OK) (hc : c.OK) (hk : k.OK) (i : Nat) : (four4 a b c k i).OK := by
  unfold four4; split
  · exact ha
  · split
    · exact hb
    · split
      · exact hc
      · exact hk
theorem firstE_next {a b c k : KY} {i : Nat} (hi : i < 4) (h : firstE a b c k i) (he : kE (four4 a b c k i) = 0) : firstE a b c k (i + 1) := by
  obtain ⟨h1, h2, h3, h4⟩ := h
  unfold four4 at he
  refine ⟨fun _ => ?_, fun _ => ?_, fun _ => ?_, fun _ => ?_⟩
  · by_cases h0 : i = 0
    · simpa [h0] using he
    · exact h1 (by omega)
  · by_cases h0 : i = 1
    · simpa [h0] using he
    · exact h2 (by omega)
  · by_cases h0 : i = 2
    · simpa [h0] using he
    · exact h3 (by omega)
  · have h0 : i = 3 := by omega
    simpa [h0] using he
theorem firstE_bad {a b c k : KY} {i : Nat} (hi : i < 4) (h : firstE a b c k i) (he : kE (four4 a b c k i) ≠ 0) : turnE a b c k = kE (four4 a b c k i) := by
  obtain ⟨h1, h2, h3, h4⟩ := h
  unfold turnE
  unfold four4 at he ⊢
  match i, hi with
  | 0, _ => simp at he ⊢; intro h; exact absurd h he
  | 1, _ => simp at he h1 ⊢; simp [h1]; intro h; exact absurd h he
  | 2, _ => simp at he h1 h2 ⊢; simp [h1, h2]; intro h; exact absurd h he
  | 3, _ => simp at he h1 h2 h3 ⊢; simp [h1, h2, h3]; intro h; exact absurd h he

set_option maxHeartbeats 2000000 in
theorem turn_s (a b c k : KY) (ha : a.OK) (hb : b.OK) (hc : c.OK) (hk : k.OK) : Fn Try.prog 39 [.agg (slots a b c), .agg k.cells] (turnRes a b c k) [] := by
  refine fn_intro Try.func39 rfl (Nat.le_of_ble_eq_true rfl) fun w0 A => ?_
  refine awp_seq ?_
  refine awp_text (by kernel_rfl) ?_
  (refine r_run (a_box (X := .agg _) 2 rfl) rfl rfl ⟨rfl, trivial⟩ ?_)
  (refine r_run (a_box (X := .agg _) 3 rfl) rfl rfl ⟨rfl, trivial⟩ ?_)
  (refine r_run (a_alloc 4 zr57 rfl) rfl rfl ⟨rfl, trivial⟩ ?_)
  (refine r_pure (a_assign (r := .p _)) rfl rfl ?_)
  refine arun_nil ?_
  refine awp_seq (awp_seq ?_)
  refine awp_text (by kernel_rfl) ?_
  (refine r_pure (b_fieldAddr fi57_0 rfl) rfl rfl ?_)
  (refine r_run (a_loadN Try.underlying53 rfl sz53 (by first | exact Nat.le_of_ble_eq_true rfl | omega | (simp only [AV.cells, List.length_map]; omega)) (by first | exact take_all (by first | assumption | exact Nat.eq_of_beq_eq_true rfl | (simp only [AV.cells, List.length_map]; first | assumption | omega)) | (simp only [List.take_succ_cons, List.take_zero, List.drop_succ_cons, List.drop_zero]; rfl) | rfl)) rfl rfl ⟨rfl, trivial⟩ ?_)
  (refine r_pure (b_fieldAddr fi57_1 rfl) rfl rfl ?_)
  (refine r_run (a_loadN Try.underlying53 rfl sz53 (by first | exact Nat.le_of_ble_eq_true rfl | omega | (simp only [AV.cells, List.length_map]; omega)) (by first | exact take_all (by first | assumption | exact Nat.eq_of_beq_eq_true rfl | (simp only [AV.cells, List.length_map]; first | assumption | omega)) | (simp only [List.take_succ_cons, List.take_zero, List.drop_succ_cons, List.drop_zero]; rfl) | rfl)) rfl rfl ⟨rfl, trivial⟩ ?_)
  (refine r_pure (b_fieldAddr fi57_2 rfl) rfl rfl ?_)
  (refine r_run (a_loadN Try.underlying53 rfl sz53 (by first | exact Nat.le_of_ble_eq_true rfl | omega | (simp only [AV.cells, List.length_map]; omega)) (by first | exact take_all (by first | assumption | exact Nat.eq_of_beq_eq_true rfl | (simp only [AV.cells, List.length_map]; first | assumption | omega)) | (simp only [List.take_succ_cons, List.take_zero, List.drop_succ_cons, List.drop_zero]; rfl) | rfl)) rfl rfl ⟨rfl, trivial⟩ ?_)
  (refine r_run (a_loadN Try.underlying53 rfl sz53 (by first | exact Nat.le_of_ble_eq_true rfl | omega | (simp only [AV.cells, List.length_map]; omega)) (by first | exact take_all (by first | assumption | exact Nat.eq_of_beq_eq_true rfl | (simp only [AV.cells, List.length_map]; first | assumption | omega)) | (simp only [List.take_succ_cons, List.take_zero, List.drop_succ_cons, List.drop_zero]; rfl) | rfl)) rfl rfl ⟨rfl, trivial⟩ ?_)
  (refine r_pure (xs := [.agg a.cells, .agg b.cells, .agg c.cells, .agg k.cells]) (a_buildA (es := (a.cells ++ b.cells ++ c.cells ++ k.cells)) Try.underlying105 zr105 rfl sz53 (by kernel_rfl)) (by first | rfl | kernel_rfl) rfl ?_)
  (refine r_pure (a_move (r := .p _)) rfl rfl ?_)
  refine arun_nil ?_
  refine awp_block ?_
  refine awp_loopR (fun m st => ∃ i : Nat, m + i = 4 ∧ firstE a b c k i ∧ st = St.of [(2, .ref 2 0), (3, .ref 3 0), (4, .ref 4 0), (16, .agg (a.cells ++ b.cells ++ c.cells ++ k.cells)), (17, .p (.v (.int .i64 i)))] [(2, .box 57 (slots a b c)), (3, .box 53 k.cells), (4, .box 57 (slots KY0 KY0 KY0))]) 4 ?_ ?_
  · refine ⟨_, re_of id _ _ ?_ ?_ rfl, 0, by omega, ⟨by omega, by omega, by omega, by omega⟩, rfl⟩
    · (repeat (first | exact trivial | (refine ⟨⟨(by first | rfl | (simp; done) | (simp; omega)), rfl⟩, ?_⟩)))
    · exact ⟨⟨rfl, rfl⟩, ⟨rfl, rfl⟩, ⟨rfl, rfl⟩, trivial⟩
  rintro m st ⟨i, hi, hf, rfl⟩
  refine awp_seq ?_
  refine awp_text (by kernel_rfl) ?_
  (refine r_pure a_lss rfl rfl ?_)
  refine arun_nil ?_
  refine awp_seq ?_
  refine awp_cond _ rfl (fun h => ?_) (fun h => ?_)
  · have hlt : i < 4 := by simp at h; omega
    clear h
    have hix := four4_at a b c k i hlt
    have hC := kcheck_s (four4 a b c k i) (four4_ok ha hb hc hk i)
    have hnx := firstE_next hlt hf
    have hbd := firstE_bad hlt hf
    generalize four4 a b c k i = x at *
    refine awp_skip (awp_seq (awp_block (awp_seq ?_)))
    refine awp_text (by kernel_rfl) ?_
    (refine r_pure (a_indexN Try.underlying105 sz53 Try.underlying53 rfl (by omega) (by omega) (by exact hix)) rfl rfl ?_)
    (refine r_run (a_alloc 7 zr53 rfl) rfl rfl ⟨rfl, trivial⟩ ?_)
    (refine r_run (a_storeAll (Y := .agg _) sz53 rfl (by first | exact Nat.eq_of_beq_eq_true rfl | (simp only [AV.cells, List.length_map]; first | assumption | omega)) (Nat.eq_of_beq_eq_true rfl)) rfl rfl ⟨rfl, trivial⟩ ?_)
    refine arun_nil ?_
    refine awp_seq ?_
    refine awp_text (by kernel_rfl) ?_
    (refine r_run (a_loadN Try.underlying53 rfl sz53 (by first | exact Nat.le_of_ble_eq_true rfl | omega | (simp only [AV.cells, List.length_map]; omega)) (by first | exact take_all (by first | assumption | exact Nat.eq_of_beq_eq_true rfl | (simp only [AV.cells, List.length_map]; first | assumption | omega)) | (simp only [List.take_succ_cons, List.take_zero, List.drop_succ_cons, List.drop_zero]; rfl) | rfl)) rfl rfl ⟨rfl, trivial⟩ ?_)
    (refine r_callV (fun n => 21 + 1000 * n) (hC) rfl rfl Try.func33 rfl rfl (by first | rfl | simp [AV.noSl, AV.noSlL, AObj.noSl, PV.isV, bs_noSl]) (by first | rfl | simp [AV.noSl, AV.noSlL, AObj.noSl, PV.isV, bs_noSl]) rfl rfl rfl (by first | exact trivial | exact ⟨rfl, trivial⟩ | exact ⟨rfl, rfl, trivial⟩) rfl rfl rfl ?_)
    (refine r_pure (a_assign (r := .p _)) rfl rfl ?_)
    refine arun_nil ?_
    refine awp_seq ?_
    refine awp_text (by kernel_rfl) ?_
    (refine r_pure (a_move (r := .p _)) rfl rfl ?_)
    (refine r_pure a_neq rfl rfl ?_)
    refine arun_nil ?_
    refine thn_n ?_
    refine awp_cond _ rfl (fun h => ?_) (fun h => ?_)
    · have hne : kE x ≠ 0 := by simpa using h
      rw [turnRes_bad (hbd hne) hne]
      refine awp_seq ?_
      refine awp_text (by kernel_rfl) ?_
      (refine r_pure (b_build pl57 zr57 rfl rfl) rfl rfl ?_)
      (refine r_pure (a_move (r := .p _)) rfl rfl ?_)
      (refine r_run (a_storeAll (Y := .agg _) sz57 rfl (by first | exact Nat.eq_of_beq_eq_true rfl | (simp only [AV.cells, List.length_map]; first | assumption | omega)) (Nat.eq_of_beq_eq_true rfl)) rfl rfl ⟨rfl, trivial⟩ ?_)
      (refine r_pure (a_assign (r := .p _)) rfl rfl ?_)
      refine arun_nil ?_
      refine awp_ret (inb_r (thn_r (thn_r (inb_r (thn_r ?_)))))
      refine ⟨(by first | exact .inl rfl | exact .inr rfl), _, (fun o => o), (.cellN _ _ _ _ _ _ _ _ _ rfl rfl Try.underlying57 rfl sz57 (by first | assumption | kernel_rfl) (.tmp _ _ _ _ rfl .nil)), ?_, rfl, ?_, rfl⟩
      · exact rfl
      · exact trivial
    · have he : kE x = 0 := by simpa using h
      refine awp_skip (inb_n (thn_n ?_))
      refine awp_text (by kernel_rfl) ?_
      (refine r_pure (a_add (by first | exact IntWalk.i64_in _ (by omega) | rfl)) rfl rfl ?_)
      (refine r_pure (a_move (r := .p _)) rfl rfl ?_)
      refine arun_nil ?_
      refine thn_n ?_
      refine ⟨m - 1, by omega, _, re_of id _ _ ?_ ?_ rfl, i + 1, by omega, hnx he, rfl⟩
      · (repeat (first | exact trivial | (refine ⟨⟨(by first | rfl | (simp; done) | (simp; omega)), rfl⟩, ?_⟩)))
      · exact ⟨⟨rfl, rfl⟩, ⟨rfl, rfl⟩, ⟨rfl, rfl⟩, trivial⟩
  have hge : i = 4 := by simp at h; omega
  clear h
  subst hge
  obtain ⟨h1, h2, h3, h4⟩ := hf
  replace h1 := h1 (by omega)
  replace h2 := h2 (by omega)
  replace h3 := h3 (by omega)
  replace h4 := h4 (by omega)
  have hE : turnE a b c k = if k.live = false then 13 else 0 := by unfold turnE; simp [h1, h2, h3, h4]
  refine awp_exit (awp_seq (awp_block (awp_seq ?_)))
  refine awp_text (by kernel_rfl) ?_
  (refine r_pure (b_fieldAddr fi53_0 rfl) rfl rfl ?_)
  (refine r_run (a_load1 Try.underlying4 rfl (by first | rfl | assumption)) rfl rfl ⟨rfl, trivial⟩ ?_)
  (refine r_pure a_not rfl rfl ?_)
  (refine r_pure (a_assign (r := .p _)) rfl rfl ?_)
  refine arun_nil ?_
  refine thn_n ?_
  refine awp_cond _ rfl (fun h => ?_) (fun h => ?_)
  · have hl : k.live = false := by simpa using h
    rw [if_pos hl] at hE
    rw [turnRes_bad hE (by omega)]
    refine awp_seq ?_
    refine awp_text (by kernel_rfl) ?_
    (refine r_pure (b_build pl57 zr57 rfl rfl) rfl rfl ?_)
    (refine r_run (a_storeAll (Y := .agg _) sz57 rfl (by first | exact Nat.eq_of_beq_eq_true rfl | (simp only [AV.cells, List.length_map]; first | assumption | omega)) (Nat.eq_of_beq_eq_true rfl)) rfl rfl ⟨rfl, trivial⟩ ?_)
    (refine r_pure (a_assign (r := .p _)) rfl rfl ?_)
    refine arun_nil ?_
    refine awp_ret (inb_r (thn_r ?_))
    refine ⟨(by first | exact .inl rfl | exact .inr rfl), _, (fun o => o), (.cellN _ _ _ _ _ _ _ _ _ rfl rfl Try.underlying57 rfl sz57 (by first | assumption | kernel_rfl) (.tmp _ _ _ _ rfl .nil)), ?_, rfl, ?_, rfl⟩
    · exact rfl
    · exact trivial
  have hl : k.live = true := by simpa using h
  clear h
  rw [if_neg (by simp [hl])] at hE
  unfold turnRes turnR
  rw [hE, if_neg (by omega)]
  refine awp_seq ?_
  refine awp_text (by kernel_rfl) ?_
  (refine r_pure (b_fieldAddr fi53_8 rfl) rfl rfl ?_)
  (refine r_run (a_load1 Try.underlying4 rfl (by first | rfl | assumption)) rfl rfl ⟨rfl, trivial⟩ ?_)
  (refine r_pure (a_assign (r := .p _)) rfl rfl ?_)
  refine arun_nil ?_
  refine thn_n ?_
  refine awp_cond _ rfl (fun h => ?_) (fun h => ?_)
  · rw [if_pos h]
    refine awp_seq ?_
    refine awp_text (by kernel_rfl) ?_
    (refine r_run (a_loadN Try.underlying53 rfl sz53 (by first | exact Nat.le_of_ble_eq_true rfl | omega | (simp only [AV.cells, List.length_map]; omega)) (by first | exact take_all (by first | assumption | exact Nat.eq_of_beq_eq_true rfl | (simp only [AV.cells, List.length_map]; first | assumption | omega)) | (simp only [List.take_succ_cons, List.take_zero, List.drop_succ_cons, List.drop_zero]; rfl) | rfl)) rfl rfl ⟨rfl, trivial⟩ ?_)
    (refine r_pure (b_fieldAddr fi57_0 rfl) rfl rfl ?_)
    (refine r_run (a_loadN Try.underlying53 rfl sz53 (by first | exact Nat.le_of_ble_eq_true rfl | omega | (simp only [AV.cells, List.length_map]; omega)) (by first | exact take_all (by first | assumption | exact Nat.eq_of_beq_eq_true rfl | (simp only [AV.cells, List.length_map]; first | assumption | omega)) | (simp only [List.take_succ_cons, List.take_zero, List.drop_succ_cons, List.drop_zero]; rfl) | rfl)) rfl rfl ⟨rfl, trivial⟩ ?_)
    (refine r_pure (b_build pl57 zr57 rfl rfl) rfl rfl ?_)
    (refine r_run (a_storeAll (Y := .agg _) sz57 rfl (by first | exact Nat.eq_of_beq_eq_true rfl | (simp only [AV.cells, List.length_map]; first | assumption | omega)) (Nat.eq_of_beq_eq_true rfl)) rfl rfl ⟨rfl, trivial⟩ ?_)
    (refine r_pure (a_assign (r := .p _)) rfl rfl ?_)
    refine arun_nil ?_
    refine awp_ret (inb_r (thn_r ?_))
    refine ⟨(by first | exact .inl rfl | exact .inr rfl), _, (fun o => o), (.cellN _ _ _ _ _ _ _ _ _ rfl rfl Try.underlying57 rfl sz57 (by first | assumption | kernel_rfl) (.tmp _ _ _ _ rfl .nil)), ?_, rfl, ?_, rfl⟩
    · exact rfl
    · exact trivial
  · rw [if_neg (by simp [h])]
    refine awp_skip (awp_seq ?_)
    refine awp_text (by kernel_rfl) ?_
    (refine r_pure (b_fieldAddr fi57_0 rfl) rfl rfl ?_)
    (refine r_run (a_loadN Try.underlying53 rfl sz53 (by first | exact Nat.le_of_ble_eq_true rfl | omega | (simp only [AV.cells, List.length_map]; omega)) (by first | exact take_all (by first | assumption | exact Nat.eq_of_beq_eq_true rfl | (simp only [AV.cells, List.length_map]; first | assumption | omega)) | (simp only [List.take_succ_cons, List.take_zero, List.drop_succ_cons, List.drop_zero]; rfl) | rfl)) rfl rfl ⟨rfl, trivial⟩ ?_)
    (refine r_pure (b_fieldAddr fi57_1 rfl) rfl rfl ?_)
    (refine r_run (a_loadN Try.underlying53 rfl sz53 (by first | exact Nat.le_of_ble_eq_true rfl | omega | (simp only [AV.cells, List.length_map]; omega)) (by first | exact take_all (by first | assumption | exact Nat.eq_of_beq_eq_true rfl | (simp only [AV.cells, List.length_map]; first | assumption | omega)) | (simp only [List.take_succ_cons, List.take_zero, List.drop_succ_cons, List.drop_zero]; rfl) | rfl)) rfl rfl ⟨rfl, trivial⟩ ?_)
    (refine r_run (a_loadN Try.underlying53 rfl sz53 (by first | exact Nat.le_of_ble_eq_true rfl | omega | (simp only [AV.cells, List.length_map]; omega)) (by first | exact take_all (by first | assumption | exact Nat.eq_of_beq_eq_true rfl | (simp only [AV.cells, List.length_map]; first | assumption | omega)) | (simp only [List.take_succ_cons, List.take_zero, List.drop_succ_cons, List.drop_zero]; rfl) | rfl)) rfl rfl ⟨rfl, trivial⟩ ?_)
    (refine r_pure (b_build pl57 zr57 rfl rfl) rfl rfl ?_)
    (refine r_run (a_storeAll (Y := .agg _) sz57 rfl (by first | exact Nat.eq_of_beq_eq_true rfl | (simp only [AV.cells, List.length_map]; first | assumption | omega)) (Nat.eq_of_beq_eq_true rfl)) rfl rfl ⟨rfl, trivial⟩ ?_)
    (refine r_pure (a_assign (r := .p _)) rfl rfl ?_)
    refine arun_nil ?_
    refine awp_ret ?_
    refine ⟨(by first | exact .inl rfl | exact .inr rfl), _, (fun o => o), (.cellN _ _ _ _ _ _ _ _ _ rfl rfl Try.underlying57 rfl sz57 (by first | assumption | kernel_rfl) (.tmp _ _ _ _ rfl .nil)), ?_, rfl, ?_, rfl⟩
    · exact rfl
    · exact trivial

set_option maxHeartbeats 2000000 in
theorem refTurn_s (a b c k : KY) (ha : a.OK) (hb : b.OK) (hc : c.OK) (hk : k.OK) : Fn Try.prog 41 [.agg (slots a b c), .agg k.cells] (turnRes a b c k) [] := by
  refine fn_intro Try.func41 rfl (Nat.le_of_ble_eq_true rfl) fun w0 A => ?_
  refine awp_seq ?_
  refine awp_text (by kernel_rfl) ?_
  (refine r_run (a_box (X := .agg _) 2 rfl) rfl rfl ⟨rfl, trivial⟩ ?_)
  (refine r_run (a_box (X := .agg _) 3 rfl) rfl rfl ⟨rfl, trivial⟩ ?_)
  (refine r_run (a_alloc 4 zr57 rfl) rfl rfl ⟨rfl, trivial⟩ ?_)
  (refine r_pure (a_assign (r := .p _)) rfl rfl ?_)
  refine arun_nil ?_
  refine awp_seq (awp_seq ?_)
  refine awp_text (by kernel_rfl) ?_
  (refine r_pure (b_fieldAddr fi57_0 rfl) rfl rfl ?_)
  (refine r_run (a_loadN Try.underlying53 rfl sz53 (by first | exact Nat.le_of_ble_eq_true rfl | omega | (simp only [AV.cells, List.length_map]; omega)) (by first | exact take_all (by first | assumption | exact Nat.eq_of_beq_eq_true rfl | (simp only [AV.cells, List.length_map]; first | assumption | omega)) | (simp only [List.take_succ_cons, List.take_zero, List.drop_succ_cons, List.drop_zero]; rfl) | rfl)) rfl rfl ⟨rfl, trivial⟩ ?_)
  (refine r_pure (b_fieldAddr fi57_1 rfl) rfl rfl ?_)
  (refine r_run (a_loadN Try.underlying53 rfl sz53 (by first | exact Nat.le_of_ble_eq_true rfl | omega | (simp only [AV.cells, List.length_map]; omega)) (by first | exact take_all (by first | assumption | exact Nat.eq_of_beq_eq_true rfl | (simp only [AV.cells, List.length_map]; first | assumption | omega)) | (simp only [List.take_succ_cons, List.take_zero, List.drop_succ_cons, List.drop_zero]; rfl) | rfl)) rfl rfl ⟨rfl, trivial⟩ ?_)
  (refine r_pure (b_fieldAddr fi57_2 rfl) rfl rfl ?_)
  (refine r_run (a_loadN Try.underlying53 rfl sz53 (by first | exact Nat.le_of_ble_eq_true rfl | omega | (simp only [AV.cells, List.length_map]; omega)) (by first | exact take_all (by first | assumption | exact Nat.eq_of_beq_eq_true rfl | (simp only [AV.cells, List.length_map]; first | assumption | omega)) | (simp only [List.take_succ_cons, List.take_zero, List.drop_succ_cons, List.drop_zero]; rfl) | rfl)) rfl rfl ⟨rfl, trivial⟩ ?_)
  (refine r_run (a_loadN Try.underlying53 rfl sz53 (by first | exact Nat.le_of_ble_eq_true rfl | omega | (simp only [AV.cells, List.length_map]; omega)) (by first | exact take_all (by first | assumption | exact Nat.eq_of_beq_eq_true rfl | (simp only [AV.cells, List.length_map]; first | assumption | omega)) | (simp only [List.take_succ_cons, List.take_zero, List.drop_succ_cons, List.drop_zero]; rfl) | rfl)) rfl rfl ⟨rfl, trivial⟩ ?_)
  (refine r_run (xs := [.agg a.cells, .agg b.cells, .agg c.cells, .agg k.cells]) (a_buildSlice (es := (a.cells ++ b.cells ++ c.cells ++ k.cells)) (cs := (a.pv ++ b.pv ++ c.pv ++ k.pv)) 16 Try.underlying106 sz53 zc53 (Nat.le_of_ble_eq_true rfl) (Nat.le_of_ble_eq_true rfl) rfl (by kernel_rfl) (by kernel_rfl) (by kernel_rfl) (Nat.le_of_ble_eq_true rfl)) (by first | rfl | kernel_rfl) rfl ⟨rfl, trivial⟩ ?_)
  (refine r_run (a_lenR Try.underlying106) rfl rfl ⟨rfl, trivial⟩ ?_)
  (refine r_pure (a_move (r := .p _)) rfl rfl ?_)
  refine arun_nil ?_
  refine awp_block ?_
  refine awp_loopR (fun m st => ∃ i : Nat, m + i = 4 ∧ firstE a b c k i ∧ st = St.of [(2, .ref 2 0), (3, .ref 3 0), (4, .ref 4 0), (16, .row 16), (17, .p (.v (.int .i64 4))), (18, .p (.v (.int .i64 i)))] [(2, .box 57 (slots a b c)), (3, .box 53 k.cells), (4, .box 57 (slots KY0 KY0 KY0)), (16, .row 53 11 4 (a.pv ++ b.pv ++ c.pv ++ k.pv))]) 4 ?_ ?_
  · refine ⟨_, re_of id _ _ ?_ ?_ rfl, 0, by omega, ⟨by omega, by omega, by omega, by omega⟩, rfl⟩
    · (repeat (first | exact trivial | (refine ⟨⟨(by first | rfl | (simp; done) | (simp; omega)), rfl⟩, ?_⟩)))
    · exact ⟨⟨rfl, rfl⟩, ⟨rfl, rfl⟩, ⟨rfl, rfl⟩, ⟨rfl, rfl⟩, trivial⟩
  rintro m st ⟨i, hi, hf, rfl⟩
  refine awp_seq ?_
  refine awp_text (by kernel_rfl) ?_
  (refine r_pure a_lss rfl rfl ?_)
  refine arun_nil ?_
  refine awp_seq ?_
  refine awp_cond _ rfl (fun h => ?_) (fun h => ?_)
  · have hlt : i < 4 := by simp at h; omega
    clear h
    have hix := four4_atV a b c k i hlt
    have hC := refKFault_s (four4 a b c k i) (four4_ok ha hb hc hk i)
    have hnx := firstE_next hlt hf
    have hbd := firstE_bad hlt hf
    generalize four4 a b c k i = x at *
    have hlen : (a.pv ++ b.pv ++ c.pv ++ k.pv).length = 44 := rfl
    refine awp_skip (awp_seq (awp_block (awp_seq ?_)))
    refine awp_text (by kernel_rfl) ?_
    (refine r_run (a_indexAddrR Try.underlying106 sz53 (by omega) (by omega) (show _ = i * 11 by omega)) rfl rfl ⟨rfl, trivial⟩ ?_)
    (refine r_run (a_loadNr Try.underlying53 rfl sz53 (by omega) (hix)) rfl rfl ⟨rfl, trivial⟩ ?_)
    (refine r_run (a_alloc 7 zr53 rfl) rfl rfl ⟨rfl, trivial⟩ ?_)
    refine r_run (a_storeAll (Y := .agg x.cells) sz53 rfl rfl (Nat.eq_of_beq_eq_true rfl)) rfl rfl ⟨rfl, trivial⟩ ?_
    refine arun_nil ?_
    refine awp_seq ?_
    refine awp_text (by kernel_rfl) ?_
    (refine r_run (a_loadN Try.underlying53 rfl sz53 (by first | exact Nat.le_of_ble_eq_true rfl | omega | (simp only [AV.cells, List.length_map]; omega)) (by first | exact take_all (by first | assumption | exact Nat.eq_of_beq_eq_true rfl | (simp only [AV.cells, List.length_map]; first | assumption | omega)) | (simp only [List.take_succ_cons, List.take_zero, List.drop_succ_cons, List.drop_zero]; rfl) | rfl)) rfl rfl ⟨rfl, trivial⟩ ?_)
    (refine r_callV (fun n => 23 + 1000 * n) (hC) rfl rfl Try.func36 rfl rfl (by first | rfl | simp [AV.noSl, AV.noSlL, AObj.noSl, PV.isV, bs_noSl]) (by first | rfl | simp [AV.noSl, AV.noSlL, AObj.noSl, PV.isV, bs_noSl]) rfl rfl rfl (by first | exact trivial | exact ⟨rfl, trivial⟩ | exact ⟨rfl, rfl, trivial⟩) rfl rfl rfl ?_)
    (refine r_pure (a_assign (r := .p _)) rfl rfl ?_)
    refine arun_nil ?_
    refine awp_seq ?_
    refine awp_text (by kernel_rfl) ?_
    (refine r_pure (a_move (r := .p _)) rfl rfl ?_)
    (refine r_pure a_neq rfl rfl ?_)
    refine arun_nil ?_
    refine thn_n ?_
    refine awp_cond _ rfl (fun h => ?_) (fun h => ?_)
    · have hne : kE x ≠ 0 := by simpa using h
      rw [turnRes_bad (hbd hne) hne]
      refine awp_seq ?_
      refine awp_text (by kernel_rfl) ?_
      (refine r_pure (b_build pl57 zr57 rfl rfl) rfl rfl ?_)
      (refine r_pure (a_move (r := .p _)) rfl rfl ?_)
      (refine r_run (a_storeAll (Y := .agg _) sz57 rfl (by first | exact Nat.eq_of_beq_eq_true rfl | (simp only [AV.cells, List.length_map]; first | assumption | omega)) (Nat.eq_of_beq_eq_true rfl)) rfl rfl ⟨rfl, trivial⟩ ?_)
      (refine r_pure (a_assign (r := .p _)) rfl rfl ?_)
      refine arun_nil ?_
      refine awp_ret (inb_r (thn_r (thn_r (inb_r (thn_r ?_)))))
      refine ⟨(by first | exact .inl rfl | exact .inr rfl), _, (fun o => o), (.cellN _ _ _ _ _ _ _ _ _ rfl rfl Try.underlying57 rfl sz57 (by first | assumption | kernel_rfl) (.tmp _ _ _ _ rfl .nil)), ?_, rfl, ?_, rfl⟩
      · exact rfl
      · exact trivial
    · have he : kE x = 0 := by simpa using h
      refine awp_skip (inb_n (thn_n ?_))
      refine awp_text (by kernel_rfl) ?_
      (refine r_pure (a_add (by first | exact IntWalk.i64_in _ (by omega) | rfl)) rfl rfl ?_)
      (refine r_pure (a_move (r := .p _)) rfl rfl ?_)
      refine arun_nil ?_
      refine thn_n ?_
      refine ⟨m - 1, by omega, _, re_of id _ _ ?_ ?_ rfl, i + 1, by omega, hnx he, rfl⟩
      · (repeat (first | exact trivial | (refine ⟨⟨(by first | rfl | (simp; done) | (simp; omega)), rfl⟩, ?_⟩)))
      · exact ⟨⟨rfl, rfl⟩, ⟨rfl, rfl⟩, ⟨rfl, rfl⟩, ⟨rfl, rfl⟩, trivial⟩
  have hge : i = 4 := by simp at h; omega
  clear h
  subst hge
  obtain ⟨h1, h2, h3, h4⟩ := hf
  replace h1 := h1 (by omega)
  replace h2 := h2 (by omega)
  replace h3 := h3 (by omega)
  replace h4 := h4 (by omega)
  have hE : turnE a b c k = if k.live = false then 13 else 0 := by unfold turnE; simp [h1, h2, h3, h4]
  refine awp_exit (awp_seq (awp_seq ?_))
  refine awp_text (by kernel_rfl) ?_
  (refine r_pure (b_fieldAddr fi53_0 rfl) rfl rfl ?_)
  (refine r_run (a_load1 Try.underlying4 rfl (by first | rfl | assumption)) rfl rfl ⟨rfl, trivial⟩ ?_)
  (refine r_pure a_not rfl rfl ?_)
  refine arun_nil ?_
  refine thn_n ?_
  refine awp_cond _ rfl (fun h => ?_) (fun h => ?_)
  · have hl : k.live = false := by simpa using h
    rw [if_pos hl] at hE
    rw [turnRes_bad hE (by omega)]
    refine awp_seq ?_
    refine awp_text (by kernel_rfl) ?_
    (refine r_pure (b_build pl57 zr57 rfl rfl) rfl rfl ?_)
    (refine r_run (a_storeAll (Y := .agg _) sz57 rfl (by first | exact Nat.eq_of_beq_eq_true rfl | (simp only [AV.cells, List.length_map]; first | assumption | omega)) (Nat.eq_of_beq_eq_true rfl)) rfl rfl ⟨rfl, trivial⟩ ?_)
    (refine r_pure (a_assign (r := .p _)) rfl rfl ?_)
    refine arun_nil ?_
    refine awp_ret (thn_r ?_)
    refine ⟨(by first | exact .inl rfl | exact .inr rfl), _, (fun o => o), (.cellN _ _ _ _ _ _ _ _ _ rfl rfl Try.underlying57 rfl sz57 (by first | assumption | kernel_rfl) (.tmp _ _ _ _ rfl .nil)), ?_, rfl, ?_, rfl⟩
    · exact rfl
    · exact trivial
  have hl : k.live = true := by simpa using h
  clear h
  rw [if_neg (by simp [hl])] at hE
  unfold turnRes turnR
  rw [hE, if_neg (by omega)]
  refine awp_skip (awp_seq (awp_seq ?_))
  refine awp_text (by kernel_rfl) ?_
  (refine r_pure (b_fieldAddr fi53_8 rfl) rfl rfl ?_)
  (refine r_run (a_load1 Try.underlying4 rfl (by first | rfl | assumption)) rfl rfl ⟨rfl, trivial⟩ ?_)
  (refine r_pure a_not rfl rfl ?_)
  refine arun_nil ?_
  refine thn_n ?_
  refine awp_cond _ rfl (fun h => ?_) (fun h => ?_)
  · have hl : ¬ k.first = true := by simpa using h
    rw [if_neg hl]
    refine awp_seq ?_
    refine awp_text (by kernel_rfl) ?_
    (refine r_run (a_loadN Try.underlying53 rfl sz53 (by first | exact Nat.le_of_ble_eq_true rfl | omega | (simp only [AV.cells, List.length_map]; omega)) (by first | exact take_all (by first | assumption | exact Nat.eq_of_beq_eq_true rfl | (simp only [AV.cells, List.length_map]; first | assumption | omega)) | (simp only [List.take_succ_cons, List.take_zero, List.drop_succ_cons, List.drop_zero]; rfl) | rfl)) rfl rfl ⟨rfl, trivial⟩ ?_)
    (refine r_pure (b_fieldAddr fi57_2 rfl) rfl rfl ?_)
    (refine r_run (a_store (Y := .agg _) sz53 rfl (by first | exact Nat.eq_of_beq_eq_true rfl | (simp only [AV.cells, List.length_map]; first | assumption | omega)) (by first | exact Nat.le_of_ble_eq_true rfl | omega | (simp only [AV.cells, List.length_map]; omega)) (by first | (simp only [setR, AV.cells, List.take_succ_cons, List.take_zero, List.drop_succ_cons, List.drop_zero, List.drop_nil, List.take_nil, List.nil_append, List.cons_append, List.append_nil, List.length_cons, List.length_nil, Nat.reduceAdd, Nat.zero_add, Nat.add_zero]; rfl) | rfl)) rfl rfl ⟨rfl, trivial⟩ ?_)
    refine arun_nil ?_
    refine awp_seq ?_
    refine awp_text (by kernel_rfl) ?_
    (refine r_run (a_loadN Try.underlying57 rfl sz57 (by first | exact Nat.le_of_ble_eq_true rfl | omega | (simp only [AV.cells, List.length_map]; omega)) (by first | exact take_all (by first | assumption | exact Nat.eq_of_beq_eq_true rfl | (simp only [AV.cells, List.length_map]; first | assumption | omega)) | (simp only [List.take_succ_cons, List.take_zero, List.drop_succ_cons, List.drop_zero]; rfl) | rfl)) rfl rfl ⟨rfl, trivial⟩ ?_)
    (refine r_run (a_storeAll (Y := .agg _) sz57 rfl (by first | exact Nat.eq_of_beq_eq_true rfl | (simp only [AV.cells, List.length_map]; first | assumption | omega)) (Nat.eq_of_beq_eq_true rfl)) rfl rfl ⟨rfl, trivial⟩ ?_)
    (refine r_pure (a_assign (r := .p _)) rfl rfl ?_)
    refine arun_nil ?_
    refine awp_ret (thn_r ?_)
    refine ⟨(by first | exact .inl rfl | exact .inr rfl), _, (fun o => o), (.cellN _ _ _ _ _ _ _ _ _ rfl rfl Try.underlying57 rfl sz57 (by first | assumption | kernel_rfl) (.tmp _ _ _ _ rfl .nil)), ?_, rfl, ?_, rfl⟩
    · exact rfl
    · exact trivial
  · have hl : k.first = true := by simpa using h
    rw [if_pos hl]
    refine awp_skip (awp_seq ?_)
    refine awp_text (by kernel_rfl) ?_
    (refine r_run (a_loadN Try.underlying53 rfl sz53 (by first | exact Nat.le_of_ble_eq_true rfl | omega | (simp only [AV.cells, List.length_map]; omega)) (by first | exact take_all (by first | assumption | exact Nat.eq_of_beq_eq_true rfl | (simp only [AV.cells, List.length_map]; first | assumption | omega)) | (simp only [List.take_succ_cons, List.take_zero, List.drop_succ_cons, List.drop_zero]; rfl) | rfl)) rfl rfl ⟨rfl, trivial⟩ ?_)
    (refine r_pure (b_fieldAddr fi57_0 rfl) rfl rfl ?_)
    (refine r_run (a_loadN Try.underlying53 rfl sz53 (by first | exact Nat.le_of_ble_eq_true rfl | omega | (simp only [AV.cells, List.length_map]; omega)) (by first | exact take_all (by first | assumption | exact Nat.eq_of_beq_eq_true rfl | (simp only [AV.cells, List.length_map]; first | assumption | omega)) | (simp only [List.take_succ_cons, List.take_zero, List.drop_succ_cons, List.drop_zero]; rfl) | rfl)) rfl rfl ⟨rfl, trivial⟩ ?_)
    (refine r_pure (b_build pl57 zr57 rfl rfl) rfl rfl ?_)
    (refine r_run (a_storeAll (Y := .agg _) sz57 rfl (by first | exact Nat.eq_of_beq_eq_true rfl | (simp only [AV.cells, List.length_map]; first | assumption | omega)) (Nat.eq_of_beq_eq_true rfl)) rfl rfl ⟨rfl, trivial⟩ ?_)
    (refine r_pure (a_assign (r := .p _)) rfl rfl ?_)
    refine arun_nil ?_
    refine awp_ret ?_
    refine ⟨(by first | exact .inl rfl | exact .inr rfl), _, (fun o => o), (.cellN _ _ _ _ _ _ _ _ _ rfl rfl Try.underlying57 rfl sz57 (by first | assumption | kernel_rfl) (.tmp _ _ _ _ rfl .nil)), ?_, rfl, ?_, rfl⟩
    · exact rfl
    · exact trivial

def confR (a b c : KY) : List AV := if c.live = true then slots c a KY0 else slots a b c
theorem confirm_s (a b c : KY) : Fn Try.prog 40 [.agg (slots a b c)] (.agg (confR a b c)) [] := by
  unfold confR
  refine fn_intro Try.func40 rfl (Nat.le_of_ble_eq_true rfl) fun w0 A => ?_
  refine awp_seq ?_
  refine awp_text (by kernel_rfl) ?_
  (refine r_run (a_box (X := .agg _) 1 rfl) rfl rfl ⟨rfl, trivial⟩ ?_)
  (refine r_run (a_alloc 2 zr57 rfl) rfl rfl ⟨rfl, trivial⟩ ?_)
  refine arun_nil ?_
  refine awp_seq (awp_seq ?_)
  refine awp_text (by kernel_rfl) ?_
  (refine r_pure (b_fieldAddr fi57_2 rfl) rfl rfl ?_)
  (refine r_pure (b_fieldAddr fi53_0 rfl) rfl rfl ?_)
  (refine r_run (a_load1 Try.underlying4 rfl (by first | rfl | assumption)) rfl rfl ⟨rfl, trivial⟩ ?_)
  (refine r_pure a_not rfl rfl ?_)
  refine arun_nil ?_
  refine thn_n ?_
  refine awp_cond _ rfl (fun h => ?_) (fun h => ?_)
  · have hl : ¬ c.live = true := by simpa using h
    rw [if_neg hl]
    refine awp_seq ?_
    refine awp_text (by kernel_rfl) ?_
    (refine r_run (a_loadN Try.underlying57 rfl sz57 (by first | exact Nat.le_of_ble_eq_true rfl | omega | (simp only [AV.cells, List.length_map]; omega)) (by first | exact take_all (by first | assumption | exact Nat.eq_of_beq_eq_true rfl | (simp only [AV.cells, List.length_map]; first | assumption | omega)) | (simp only [List.take_succ_cons, List.take_zero, List.drop_succ_cons, List.drop_zero]; rfl) | rfl)) rfl rfl ⟨rfl, trivial⟩ ?_)
    (refine r_run (a_storeAll (Y := .agg _) sz57 rfl (by first | exact Nat.eq_of_beq_eq_true rfl | (simp only [AV.cells, List.length_map]; first | assumption | omega)) (Nat.eq_of_beq_eq_true rfl)) rfl rfl ⟨rfl, trivial⟩ ?_)
    refine arun_nil ?_
    refine awp_ret (thn_r ?_)
    refine ⟨(by first | exact .inl rfl | exact .inr rfl), _, (fun o => o), (.cellN _ _ _ _ _ _ _ _ _ rfl rfl Try.underlying57 rfl sz57 (by first | assumption | kernel_rfl) .nil), ?_, rfl, ?_, rfl⟩
    · exact rfl
    · exact trivial
  · have hl : c.live = true := by simpa using h
    rw [if_pos hl]
    refine awp_skip (awp_seq ?_)
    refine awp_text (by kernel_rfl) ?_
    (refine r_pure (b_fieldAddr fi57_2 rfl) rfl rfl ?_)
    (refine r_run (a_loadN Try.underlying53 rfl sz53 (by first | exact Nat.le_of_ble_eq_true rfl | omega | (simp only [AV.cells, List.length_map]; omega)) (by first | exact take_all (by first | assumption | exact Nat.eq_of_beq_eq_true rfl | (simp only [AV.cells, List.length_map]; first | assumption | omega)) | (simp only [List.take_succ_cons, List.take_zero, List.drop_succ_cons, List.drop_zero]; rfl) | rfl)) rfl rfl ⟨rfl, trivial⟩ ?_)
    (refine r_pure (b_fieldAddr fi57_0 rfl) rfl rfl ?_)
    (refine r_run (a_loadN Try.underlying53 rfl sz53 (by first | exact Nat.le_of_ble_eq_true rfl | omega | (simp only [AV.cells, List.length_map]; omega)) (by first | exact take_all (by first | assumption | exact Nat.eq_of_beq_eq_true rfl | (simp only [AV.cells, List.length_map]; first | assumption | omega)) | (simp only [List.take_succ_cons, List.take_zero, List.drop_succ_cons, List.drop_zero]; rfl) | rfl)) rfl rfl ⟨rfl, trivial⟩ ?_)
    (refine r_pure (b_build pl57 zr57 rfl rfl) rfl rfl ?_)
    (refine r_run (a_storeAll (Y := .agg _) sz57 rfl (by first | exact Nat.eq_of_beq_eq_true rfl | (simp only [AV.cells, List.length_map]; first | assumption | omega)) (Nat.eq_of_beq_eq_true rfl)) rfl rfl ⟨rfl, trivial⟩ ?_)
    refine arun_nil ?_
    refine awp_ret ?_
    refine ⟨(by first | exact .inl rfl | exact .inr rfl), _, (fun o => o), (.cellN _ _ _ _ _ _ _ _ _ rfl rfl Try.underlying57 rfl sz57 (by first | assumption | kernel_rfl) .nil), ?_, rfl, ?_, rfl⟩
    · exact rfl
    · exact trivial
theorem refConfirm_s (a b c : KY) : Fn Try.prog 42 [.agg (slots a b c)] (.agg (confR a b c)) [] := by
  unfold confR
  refine fn_intro Try.func42 rfl (Nat.le_of_ble_eq_true rfl) fun w0 A => ?_
  refine awp_seq ?_
  refine awp_text (by kernel_rfl) ?_
  (refine r_run (a_box (X := .agg _) 1 rfl) rfl rfl ⟨rfl, trivial⟩ ?_)
  (refine r_run (a_alloc 2 zr57 rfl) rfl rfl ⟨rfl, trivial⟩ ?_)
  refine arun_nil ?_
  refine awp_seq (awp_seq ?_)
  refine awp_text (by kernel_rfl) ?_
  (refine r_pure (b_fieldAddr fi57_2 rfl) rfl rfl ?_)
  (refine r_pure (b_fieldAddr fi53_0 rfl) rfl rfl ?_)
  (refine r_run (a_load1 Try.underlying4 rfl (by first | rfl | assumption)) rfl rfl ⟨rfl, trivial⟩ ?_)
  refine arun_nil ?_
  refine thn_n ?_
  refine awp_cond _ rfl (fun h => ?_) (fun h => ?_)
  · have hl : c.live = true := h
    rw [if_pos hl]
    refine awp_seq ?_
    refine awp_text (by kernel_rfl) ?_
    (refine r_pure (b_fieldAddr fi57_2 rfl) rfl rfl ?_)
    (refine r_run (a_loadN Try.underlying53 rfl sz53 (by first | exact Nat.le_of_ble_eq_true rfl | omega | (simp only [AV.cells, List.length_map]; omega)) (by first | exact take_all (by first | assumption | exact Nat.eq_of_beq_eq_true rfl | (simp only [AV.cells, List.length_map]; first | assumption | omega)) | (simp only [List.take_succ_cons, List.take_zero, List.drop_succ_cons, List.drop_zero]; rfl) | rfl)) rfl rfl ⟨rfl, trivial⟩ ?_)
    (refine r_pure (b_fieldAddr fi57_0 rfl) rfl rfl ?_)
    (refine r_run (a_loadN Try.underlying53 rfl sz53 (by first | exact Nat.le_of_ble_eq_true rfl | omega | (simp only [AV.cells, List.length_map]; omega)) (by first | exact take_all (by first | assumption | exact Nat.eq_of_beq_eq_true rfl | (simp only [AV.cells, List.length_map]; first | assumption | omega)) | (simp only [List.take_succ_cons, List.take_zero, List.drop_succ_cons, List.drop_zero]; rfl) | rfl)) rfl rfl ⟨rfl, trivial⟩ ?_)
    (refine r_pure (b_build pl57 zr57 rfl rfl) rfl rfl ?_)
    (refine r_run (a_storeAll (Y := .agg _) sz57 rfl (by first | exact Nat.eq_of_beq_eq_true rfl | (simp only [AV.cells, List.length_map]; first | assumption | omega)) (Nat.eq_of_beq_eq_true rfl)) rfl rfl ⟨rfl, trivial⟩ ?_)
    refine arun_nil ?_
    refine awp_ret (thn_r ?_)
    refine ⟨(by first | exact .inl rfl | exact .inr rfl), _, (fun o => o), (.cellN _ _ _ _ _ _ _ _ _ rfl rfl Try.underlying57 rfl sz57 (by first | assumption | kernel_rfl) .nil), ?_, rfl, ?_, rfl⟩
    · exact rfl
    · exact trivial
  · have hl : ¬ c.live = true := by simpa using h
    rw [if_neg hl]
    refine awp_skip (awp_seq ?_)
    refine awp_text (by kernel_rfl) ?_
    (refine r_run (a_loadN Try.underlying57 rfl sz57 (by first | exact Nat.le_of_ble_eq_true rfl | omega | (simp only [AV.cells, List.length_map]; omega)) (by first | exact take_all (by first | assumption | exact Nat.eq_of_beq_eq_true rfl | (simp only [AV.cells, List.length_map]; first | assumption | omega)) | (simp only [List.take_succ_cons, List.take_zero, List.drop_succ_cons, List.drop_zero]; rfl) | rfl)) rfl rfl ⟨rfl, trivial⟩ ?_)
    (refine r_run (a_storeAll (Y := .agg _) sz57 rfl (by first | exact Nat.eq_of_beq_eq_true rfl | (simp only [AV.cells, List.length_map]; first | assumption | omega)) (Nat.eq_of_beq_eq_true rfl)) rfl rfl ⟨rfl, trivial⟩ ?_)
    refine arun_nil ?_
    refine awp_ret ?_
    refine ⟨(by first | exact .inl rfl | exact .inr rfl), _, (fun o => o), (.cellN _ _ _ _ _ _ _ _ _ rfl rfl Try.underlying57 rfl sz57 (by first | assumption | kernel_rfl) .nil), ?_, rfl, ?_, rfl⟩
    · exact rfl
    · exact trivial
end Go.Proofs.Ytfnipohlkifkhaa
