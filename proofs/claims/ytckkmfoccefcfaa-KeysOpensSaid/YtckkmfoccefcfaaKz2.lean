/- keys.Seal, keys.Open and their references, over data. -/
import Derived.Test.YtckkmfoccefcfaaKy2
import Derived.Test.YtckkmfoccefcfaaSl3
import Derived.Test.YtckkmfoccefcfaaWinE
--%T
namespace Go.Proofs.Ytckkmfoccefcfaa
open Go.RowKit Go.Sort
set_option linter.unusedVariables false
set_option linter.unusedSimpArgs false
set_option maxRecDepth 100000

/-! results: keys, bytes, an error -/
def kRes (e : Int) (k : KY) : AV := if e = 0 then .tup [.agg k.cells, .row 0, .p (.v (.int .i64 0))] else .tup [.agg KY0.cells, .p (.v (.slice none 0 0)), .p (.v (.int .i64 e))]
theorem kRes_bad {e e' : Int} (h : e = e') (he : e' ≠ 0) (k : KY) (n : Nat) (xs : List Int) : kRes e k = .tup [.agg KY0.cells, .p (.v (.slice none 0 0)), .p (.v (.int .i64 e'))] ∧ bNew e n xs = [] := by
  subst h; unfold kRes bNew; rw [if_neg he, if_neg he]; exact ⟨rfl, rfl⟩
theorem kRes_good {e : Int} (h : e = 0) (k : KY) (n : Nat) (xs : List Int) : kRes e k = .tup [.agg k.cells, .row 0, .p (.v (.int .i64 0))] ∧ bNew e n xs = [(0, .row 5 1 n (bs xs))] := by
  subst h; unfold kRes bNew; rw [if_pos rfl, if_pos rfl]; exact ⟨rfl, rfl⟩

/-! sealing -/
noncomputable def ksE (k : KY) (now : Int) (n : Nat) : Int := if kE k ≠ 0 then kE k else if freshB k now = false then 13 else sealE k.send k.counter n
def ksK (k : KY) : KY := { k with counter := k.counter + 1 }
set_option maxHeartbeats 2000000 in
theorem kSeal_s (k : KY) (ok : k.OK) (now : Int) (n0 : -9223372036854775808 ≤ now) (n1 : now ≤ 9223372036854775807) (n : Nat) (b : List Int) (hb : b.length = n) (hB : isB b) :
    Fn Try.prog 31 [.agg k.cells, .p (.v (.int .i64 now)), .p (.sl n 1 (bs b))] (kRes (ksE k now n) (ksK k)) (bNew (ksE k now n) (n + 16) (sealD k.send k.counter b)) := by
  have hC := kcheck_s k ok
  have hF := fresh_s k ok now n0 n1
  have hft := @freshB_true k now
  have hS := seal_s k.send k.counter n b hb hB
  have hE : ksE k now n = if kE k ≠ 0 then kE k else if freshB k now = false then 13 else sealE k.send k.counter n := rfl
  have hck : (ksK k).cells = [.p (.v (.bool k.live)), .p (.v (.string k.send)), .p (.v (.string k.take)), .p (.v (.int .i64 k.mine)), .p (.v (.int .i64 k.theirs)), .p (.v (.int .i64 k.born)), .p (.v (.int .i64 (k.counter + 1))), .p (.v (.bool k.ss)), .p (.v (.int .i64 k.sl)), .p (.v (.int .u64 k.sb)), .p (.v (.bool k.first))] := rfl
  generalize sealD k.send k.counter b = D at *
  by_cases h1 : kE k ≠ 0
  · rw [if_pos h1] at hE
    obtain ⟨e1, e2⟩ := kRes_bad hE h1 (ksK k) (n + 16) D
    rw [e1, e2]
    generalize kE k = e at *
    refine fn_intro Try.func31 rfl (Nat.le_of_ble_eq_true rfl) fun w0 A => ?_
    refine awp_seq ?_
    refine awp_text (by kernel_rfl) ?_
    (refine r_run (a_box (X := .agg _) 3 rfl) rfl rfl ⟨rfl, trivial⟩ ?_)
    (refine r_run (a_alloc 6 zr46 rfl) rfl rfl ⟨rfl, trivial⟩ ?_)
    (refine r_pure (a_assign (r := .p _)) rfl rfl ?_)
    (refine r_pure (a_assign (r := .p _)) rfl rfl ?_)
    refine arun_nil ?_
    refine awp_seq (awp_seq ?_)
    refine awp_text (by kernel_rfl) ?_
    (refine r_run (a_loadN Try.underlying46 rfl sz46 (by first | exact Nat.le_of_ble_eq_true rfl | omega | (simp only [AV.cells, List.length_map]; omega)) (by first | exact take_all (by first | assumption | exact Nat.eq_of_beq_eq_true rfl | (simp only [AV.cells, List.length_map]; first | assumption | omega)) | (simp only [List.take_succ_cons, List.take_zero, List.drop_succ_cons, List.drop_zero]; rfl) | rfl)) rfl rfl ⟨rfl, trivial⟩ ?_)
    (refine r_callV (fun n => 13 + 1000 * n) (hC) rfl rfl Try.func68 rfl rfl (by first | rfl | simp [AV.noSl, AV.noSlL, AObj.noSl, PV.isV, bs_noSl]) (by first | rfl | simp [AV.noSl, AV.noSlL, AObj.noSl, PV.isV, bs_noSl]) rfl rfl rfl (by first | exact trivial | exact ⟨rfl, trivial⟩ | exact ⟨rfl, rfl, trivial⟩) rfl rfl rfl ?_)
    (refine r_pure (a_assign (r := .p _)) rfl rfl ?_)
    refine arun_nil ?_
    refine awp_seq ?_
    refine awp_text (by kernel_rfl) ?_
    (refine r_pure (a_move (r := .p _)) rfl rfl ?_)
    (refine r_pure a_neq rfl rfl ?_)
    refine arun_nil ?_
    refine thn_n ?_
    refine awp_cond _ rfl (fun h => ?_) (fun h => ?_)
    · refine awp_seq ?_
      refine awp_text (by kernel_rfl) ?_
      (refine r_pure (b_build pl46 zr46 rfl rfl) rfl rfl ?_)
      (refine r_pure (a_move (r := .p _)) rfl rfl ?_)
      (refine r_run (a_storeAll (Y := .agg _) sz46 rfl (by first | exact Nat.eq_of_beq_eq_true rfl | (simp only [AV.cells, List.length_map]; first | assumption | omega)) (Nat.eq_of_beq_eq_true rfl)) rfl rfl ⟨rfl, trivial⟩ ?_)
      (refine r_pure (a_assign (r := .p _)) rfl rfl ?_)
      (refine r_pure (a_assign (r := .p _)) rfl rfl ?_)
      refine arun_nil ?_
      refine awp_ret (thn_r ?_)
      refine ⟨(by first | exact .inl rfl | exact .inr rfl), _, (fun o => o), (.cellN _ _ _ _ _ _ _ _ _ rfl rfl Try.underlying46 rfl sz46 (by first | assumption | kernel_rfl) (.tmp _ _ _ _ rfl (.tmp _ _ _ _ rfl .nil))), ?_, rfl, ?_, rfl⟩
      · exact rfl
      · exact trivial
    · exact absurd (by simpa using h) h1
  rw [if_neg h1] at hE
  replace h1 : kE k = 0 := Decidable.not_not.1 h1
  rw [h1] at hC
  cases hfr : freshB k now with
  | false =>
    rw [hfr] at hE hF
    rw [if_pos rfl] at hE
    obtain ⟨e1, e2⟩ := kRes_bad hE (by decide) (ksK k) (n + 16) D
    rw [e1, e2]
    refine fn_intro Try.func31 rfl (Nat.le_of_ble_eq_true rfl) fun w0 A => ?_
    refine awp_seq ?_
    refine awp_text (by kernel_rfl) ?_
    (refine r_run (a_box (X := .agg _) 3 rfl) rfl rfl ⟨rfl, trivial⟩ ?_)
    (refine r_run (a_alloc 6 zr46 rfl) rfl rfl ⟨rfl, trivial⟩ ?_)
    (refine r_pure (a_assign (r := .p _)) rfl rfl ?_)
    (refine r_pure (a_assign (r := .p _)) rfl rfl ?_)
    refine arun_nil ?_
    refine awp_seq (awp_seq ?_)
    refine awp_text (by kernel_rfl) ?_
    (refine r_run (a_loadN Try.underlying46 rfl sz46 (by first | exact Nat.le_of_ble_eq_true rfl | omega | (simp only [AV.cells, List.length_map]; omega)) (by first | exact take_all (by first | assumption | exact Nat.eq_of_beq_eq_true rfl | (simp only [AV.cells, List.length_map]; first | assumption | omega)) | (simp only [List.take_succ_cons, List.take_zero, List.drop_succ_cons, List.drop_zero]; rfl) | rfl)) rfl rfl ⟨rfl, trivial⟩ ?_)
    (refine r_callV (fun n => 13 + 1000 * n) (hC) rfl rfl Try.func68 rfl rfl (by first | rfl | simp [AV.noSl, AV.noSlL, AObj.noSl, PV.isV, bs_noSl]) (by first | rfl | simp [AV.noSl, AV.noSlL, AObj.noSl, PV.isV, bs_noSl]) rfl rfl rfl (by first | exact trivial | exact ⟨rfl, trivial⟩ | exact ⟨rfl, rfl, trivial⟩) rfl rfl rfl ?_)
    (refine r_pure (a_assign (r := .p _)) rfl rfl ?_)
    refine arun_nil ?_
    refine awp_seq ?_
    refine awp_text (by kernel_rfl) ?_
    (refine r_pure (a_move (r := .p _)) rfl rfl ?_)
    (refine r_pure a_neqT rfl rfl ?_)
    refine arun_nil ?_
    refine thn_n ?_
    refine awp_cond _ rfl (fun h => ?_) (fun h => ?_)
    · cases h
    refine awp_skip (awp_seq (awp_seq ?_))
    refine awp_text (by kernel_rfl) ?_
    (refine r_run (a_loadN Try.underlying46 rfl sz46 (by first | exact Nat.le_of_ble_eq_true rfl | omega | (simp only [AV.cells, List.length_map]; omega)) (by first | exact take_all (by first | assumption | exact Nat.eq_of_beq_eq_true rfl | (simp only [AV.cells, List.length_map]; first | assumption | omega)) | (simp only [List.take_succ_cons, List.take_zero, List.drop_succ_cons, List.drop_zero]; rfl) | rfl)) rfl rfl ⟨rfl, trivial⟩ ?_)
    (refine r_pure (a_move (r := .p _)) rfl rfl ?_)
    (refine r_callV (fun n => 20 + 1000 * n) (hF) rfl rfl Try.func72 rfl rfl (by first | rfl | simp [AV.noSl, AV.noSlL, AObj.noSl, PV.isV, bs_noSl]) (by first | rfl | simp [AV.noSl, AV.noSlL, AObj.noSl, PV.isV, bs_noSl]) rfl rfl rfl (by first | exact trivial | exact ⟨rfl, trivial⟩ | exact ⟨rfl, rfl, trivial⟩) rfl rfl rfl ?_)
    (refine r_pure a_not rfl rfl ?_)
    refine arun_nil ?_
    refine thn_n ?_
    refine awp_cond _ rfl (fun h => ?_) (fun h => ?_)
    · refine awp_seq ?_
      refine awp_text (by kernel_rfl) ?_
      (refine r_pure (b_build pl46 zr46 rfl rfl) rfl rfl ?_)
      (refine r_run (a_storeAll (Y := .agg _) sz46 rfl (by first | exact Nat.eq_of_beq_eq_true rfl | (simp only [AV.cells, List.length_map]; first | assumption | omega)) (Nat.eq_of_beq_eq_true rfl)) rfl rfl ⟨rfl, trivial⟩ ?_)
      (refine r_pure (a_assign (r := .p _)) rfl rfl ?_)
      (refine r_pure (a_assign (r := .p _)) rfl rfl ?_)
      refine arun_nil ?_
      refine awp_ret (thn_r ?_)
      refine ⟨(by first | exact .inl rfl | exact .inr rfl), _, (fun o => o), (.cellN _ _ _ _ _ _ _ _ _ rfl rfl Try.underlying46 rfl sz46 (by first | assumption | kernel_rfl) (.tmp _ _ _ _ rfl (.tmp _ _ _ _ rfl .nil))), ?_, rfl, ?_, rfl⟩
      · exact rfl
      · exact trivial
    · cases h
  | true =>
  rw [hfr] at hE hF
  rw [if_neg (by simp)] at hE
  have hbd := hft hfr
  by_cases h2 : sealE k.send k.counter n ≠ 0
  · obtain ⟨e1, e2⟩ := kRes_bad hE h2 (ksK k) (n + 16) D
    rw [e1, e2]
    obtain ⟨e1, e2⟩ := bRes_bad (e' := sealE k.send k.counter n) rfl h2 (n + 16) D
    rw [e1, e2] at hS
    clear hE e1 e2
    generalize sealE k.send k.counter n = e at *
    refine fn_intro Try.func31 rfl (Nat.le_of_ble_eq_true rfl) fun w0 A => ?_
    refine awp_seq ?_
    refine awp_text (by kernel_rfl) ?_
    (refine r_run (a_box (X := .agg _) 3 rfl) rfl rfl ⟨rfl, trivial⟩ ?_)
    (refine r_run (a_alloc 6 zr46 rfl) rfl rfl ⟨rfl, trivial⟩ ?_)
    (refine r_pure (a_assign (r := .p _)) rfl rfl ?_)
    (refine r_pure (a_assign (r := .p _)) rfl rfl ?_)
    refine arun_nil ?_
    refine awp_seq (awp_seq ?_)
    refine awp_text (by kernel_rfl) ?_
    (refine r_run (a_loadN Try.underlying46 rfl sz46 (by first | exact Nat.le_of_ble_eq_true rfl | omega | (simp only [AV.cells, List.length_map]; omega)) (by first | exact take_all (by first | assumption | exact Nat.eq_of_beq_eq_true rfl | (simp only [AV.cells, List.length_map]; first | assumption | omega)) | (simp only [List.take_succ_cons, List.take_zero, List.drop_succ_cons, List.drop_zero]; rfl) | rfl)) rfl rfl ⟨rfl, trivial⟩ ?_)
    (refine r_callV (fun n => 13 + 1000 * n) (hC) rfl rfl Try.func68 rfl rfl (by first | rfl | simp [AV.noSl, AV.noSlL, AObj.noSl, PV.isV, bs_noSl]) (by first | rfl | simp [AV.noSl, AV.noSlL, AObj.noSl, PV.isV, bs_noSl]) rfl rfl rfl (by first | exact trivial | exact ⟨rfl, trivial⟩ | exact ⟨rfl, rfl, trivial⟩) rfl rfl rfl ?_)
    (refine r_pure (a_assign (r := .p _)) rfl rfl ?_)
    refine arun_nil ?_
    refine awp_seq ?_
    refine awp_text (by kernel_rfl) ?_
    (refine r_pure (a_move (r := .p _)) rfl rfl ?_)
    (refine r_pure a_neqT rfl rfl ?_)
    refine arun_nil ?_
    refine thn_n ?_
    refine awp_cond _ rfl (fun h => ?_) (fun h => ?_)
    · cases h
    refine awp_skip (awp_seq (awp_seq ?_))
    refine awp_text (by kernel_rfl) ?_
    (refine r_run (a_loadN Try.underlying46 rfl sz46 (by first | exact Nat.le_of_ble_eq_true rfl | omega | (simp only [AV.cells, List.length_map]; omega)) (by first | exact take_all (by first | assumption | exact Nat.eq_of_beq_eq_true rfl | (simp only [AV.cells, List.length_map]; first | assumption | omega)) | (simp only [List.take_succ_cons, List.take_zero, List.drop_succ_cons, List.drop_zero]; rfl) | rfl)) rfl rfl ⟨rfl, trivial⟩ ?_)
    (refine r_pure (a_move (r := .p _)) rfl rfl ?_)
    (refine r_callV (fun n => 20 + 1000 * n) (hF) rfl rfl Try.func72 rfl rfl (by first | rfl | simp [AV.noSl, AV.noSlL, AObj.noSl, PV.isV, bs_noSl]) (by first | rfl | simp [AV.noSl, AV.noSlL, AObj.noSl, PV.isV, bs_noSl]) rfl rfl rfl (by first | exact trivial | exact ⟨rfl, trivial⟩ | exact ⟨rfl, rfl, trivial⟩) rfl rfl rfl ?_)
    (refine r_pure a_not rfl rfl ?_)
    refine arun_nil ?_
    refine thn_n ?_
    refine awp_cond _ rfl (fun h => ?_) (fun h => ?_)
    · cases h
    refine awp_skip (awp_seq ?_)
    refine awp_text (by kernel_rfl) ?_
    (refine r_pure (b_fieldAddr fi46_1 rfl) rfl rfl ?_)
    (refine r_run (a_load1 Try.underlying9 rfl (by first | rfl | assumption)) rfl rfl ⟨rfl, trivial⟩ ?_)
    (refine r_pure (b_fieldAddr fi46_6 rfl) rfl rfl ?_)
    (refine r_run (a_load1 Try.underlying3 rfl (by first | rfl | assumption)) rfl rfl ⟨rfl, trivial⟩ ?_)
    (refine r_pure (a_move (r := .p _)) rfl rfl ?_)
    (refine r_callV (fun n => 29 + 1000 * n) (hS) rfl rfl Try.func73 rfl rfl (by first | rfl | simp [AV.noSl, AV.noSlL, AObj.noSl, PV.isV, bs_noSl]) (by first | rfl | simp [AV.noSl, AV.noSlL, AObj.noSl, PV.isV, bs_noSl]) rfl rfl rfl (by first | exact trivial | exact ⟨rfl, trivial⟩ | exact ⟨rfl, rfl, trivial⟩) rfl rfl rfl ?_)
    (refine r_pure (a_move (r := .tup _)) rfl rfl ?_)
    (refine r_pure (a_extract rfl) rfl rfl ?_)
    (refine r_pure (a_extract rfl) rfl rfl ?_)
    (refine r_pure (a_assign (r := .p _)) rfl rfl ?_)
    (refine r_pure (a_assign (r := .p _)) rfl rfl ?_)
    refine arun_nil ?_
    refine awp_seq (awp_seq ?_)
    refine awp_text (by kernel_rfl) ?_
    (refine r_pure (a_move (r := .p _)) rfl rfl ?_)
    (refine r_pure a_neq rfl rfl ?_)
    refine arun_nil ?_
    refine thn_n ?_
    refine awp_cond _ rfl (fun h => ?_) (fun h => ?_)
    · refine awp_seq ?_
      refine awp_text (by kernel_rfl) ?_
      (refine r_pure (b_build pl46 zr46 rfl rfl) rfl rfl ?_)
      (refine r_pure (a_move (r := .p _)) rfl rfl ?_)
      (refine r_run (a_storeAll (Y := .agg _) sz46 rfl (by first | exact Nat.eq_of_beq_eq_true rfl | (simp only [AV.cells, List.length_map]; first | assumption | omega)) (Nat.eq_of_beq_eq_true rfl)) rfl rfl ⟨rfl, trivial⟩ ?_)
      (refine r_pure (a_assign (r := .p _)) rfl rfl ?_)
      (refine r_pure (a_assign (r := .p _)) rfl rfl ?_)
      refine arun_nil ?_
      refine awp_ret (thn_r ?_)
      refine ⟨(by first | exact .inl rfl | exact .inr rfl), _, (fun o => o), (.cellN _ _ _ _ _ _ _ _ _ rfl rfl Try.underlying46 rfl sz46 (by first | assumption | kernel_rfl) (.tmp _ _ _ _ rfl (.tmp _ _ _ _ rfl .nil))), ?_, rfl, ?_, rfl⟩
      · exact rfl
      · exact trivial
    · exact absurd (by simpa using h) h2
  replace h2 : sealE k.send k.counter n = 0 := Decidable.not_not.1 h2
  obtain ⟨e1, e2⟩ := kRes_good (hE.trans h2) (ksK k) (n + 16) D
  rw [e1, e2, hck]
  obtain ⟨e1, e2⟩ := bRes_good h2 (n + 16) D
  rw [e1, e2] at hS
  clear hE e1 e2 hck
  refine fn_intro Try.func31 rfl (Nat.le_of_ble_eq_true rfl) fun w0 A => ?_
  refine awp_seq ?_
  refine awp_text (by kernel_rfl) ?_
  (refine r_run (a_box (X := .agg _) 3 rfl) rfl rfl ⟨rfl, trivial⟩ ?_)
  (refine r_run (a_alloc 6 zr46 rfl) rfl rfl ⟨rfl, trivial⟩ ?_)
  (refine r_pure (a_assign (r := .p _)) rfl rfl ?_)
  (refine r_pure (a_assign (r := .p _)) rfl rfl ?_)
  refine arun_nil ?_
  refine awp_seq (awp_seq ?_)
  refine awp_text (by kernel_rfl) ?_
  (refine r_run (a_loadN Try.underlying46 rfl sz46 (by first | exact Nat.le_of_ble_eq_true rfl | omega | (simp only [AV.cells, List.length_map]; omega)) (by first | exact take_all (by first | assumption | exact Nat.eq_of_beq_eq_true rfl | (simp only [AV.cells, List.length_map]; first | assumption | omega)) | (simp only [List.take_succ_cons, List.take_zero, List.drop_succ_cons, List.drop_zero]; rfl) | rfl)) rfl rfl ⟨rfl, trivial⟩ ?_)
  (refine r_callV (fun n => 13 + 1000 * n) (hC) rfl rfl Try.func68 rfl rfl (by first | rfl | simp [AV.noSl, AV.noSlL, AObj.noSl, PV.isV, bs_noSl]) (by first | rfl | simp [AV.noSl, AV.noSlL, AObj.noSl, PV.isV, bs_noSl]) rfl rfl rfl (by first | exact trivial | exact ⟨rfl, trivial⟩ | exact ⟨rfl, rfl, trivial⟩) rfl rfl rfl ?_)
  (refine r_pure (a_assign (r := .p _)) rfl rfl ?_)
  refine arun_nil ?_
  refine awp_seq ?_
  refine awp_text (by kernel_rfl) ?_
  (refine r_pure (a_move (r := .p _)) rfl rfl ?_)
  (refine r_pure a_neqT rfl rfl ?_)
  refine arun_nil ?_
  refine thn_n ?_
  refine awp_cond _ rfl (fun h => ?_) (fun h => ?_)
  · cases h
  refine awp_skip (awp_seq (awp_seq ?_))
  refine awp_text (by kernel_rfl) ?_
  (refine r_run (a_loadN Try.underlying46 rfl sz46 (by first | exact Nat.le_of_ble_eq_true rfl | omega | (simp only [AV.cells, List.length_map]; omega)) (by first | exact take_all (by first | assumption | exact Nat.eq_of_beq_eq_true rfl | (simp only [AV.cells, List.length_map]; first | assumption | omega)) | (simp only [List.take_succ_cons, List.take_zero, List.drop_succ_cons, List.drop_zero]; rfl) | rfl)) rfl rfl ⟨rfl, trivial⟩ ?_)
  (refine r_pure (a_move (r := .p _)) rfl rfl ?_)
  (refine r_callV (fun n => 20 + 1000 * n) (hF) rfl rfl Try.func72 rfl rfl (by first | rfl | simp [AV.noSl, AV.noSlL, AObj.noSl, PV.isV, bs_noSl]) (by first | rfl | simp [AV.noSl, AV.noSlL, AObj.noSl, PV.isV, bs_noSl]) rfl rfl rfl (by first | exact trivial | exact ⟨rfl, trivial⟩ | exact ⟨rfl, rfl, trivial⟩) rfl rfl rfl ?_)
  (refine r_pure a_not rfl rfl ?_)
  refine arun_nil ?_
  refine thn_n ?_
  refine awp_cond _ rfl (fun h => ?_) (fun h => ?_)
  · cases h
  refine awp_skip (awp_seq ?_)
  refine awp_text (by kernel_rfl) ?_
  (refine r_pure (b_fieldAddr fi46_1 rfl) rfl rfl ?_)
  (refine r_run (a_load1 Try.underlying9 rfl (by first | rfl | assumption)) rfl rfl ⟨rfl, trivial⟩ ?_)
  (refine r_pure (b_fieldAddr fi46_6 rfl) rfl rfl ?_)
  (refine r_run (a_load1 Try.underlying3 rfl (by first | rfl | assumption)) rfl rfl ⟨rfl, trivial⟩ ?_)
  (refine r_pure (a_move (r := .p _)) rfl rfl ?_)
  (refine r_callV (fun n => 29 + 1000 * n) (hS) rfl rfl Try.func73 rfl rfl (by first | rfl | simp [AV.noSl, AV.noSlL, AObj.noSl, PV.isV, bs_noSl]) (by first | rfl | simp [AV.noSl, AV.noSlL, AObj.noSl, PV.isV, bs_noSl]) rfl rfl rfl (by first | exact trivial | exact ⟨rfl, trivial⟩ | exact ⟨rfl, rfl, trivial⟩) rfl rfl rfl ?_)
  (refine r_pure (a_move (r := .tup _)) rfl rfl ?_)
  (refine r_pure (a_extract rfl) rfl rfl ?_)
  (refine r_pure (a_extract rfl) rfl rfl ?_)
  (refine r_pure (a_assign (r := .row _)) rfl rfl ?_)
  (refine r_pure (a_assign (r := .p _)) rfl rfl ?_)
  refine arun_nil ?_
  refine awp_seq (awp_seq ?_)
  refine awp_text (by kernel_rfl) ?_
  (refine r_pure (a_move (r := .p _)) rfl rfl ?_)
  (refine r_pure a_neqT rfl rfl ?_)
  refine arun_nil ?_
  refine thn_n ?_
  refine awp_cond _ rfl (fun h => ?_) (fun h => ?_)
  · cases h
  refine awp_skip (awp_seq ?_)
  refine awp_text (by kernel_rfl) ?_
  (refine r_pure (b_fieldAddr fi46_6 rfl) rfl rfl ?_)
  (refine r_run (a_load1 Try.underlying3 rfl (by first | rfl | assumption)) rfl rfl ⟨rfl, trivial⟩ ?_)
  (refine r_pure (a_add (by first | exact IntWalk.i64_in _ (by omega) | rfl)) rfl rfl ?_)
  (refine r_pure (b_fieldAddr fi46_6 rfl) rfl rfl ?_)
  (refine r_run (a_store (Y := .p _) sz3 rfl (by first | exact Nat.eq_of_beq_eq_true rfl | (simp only [AV.cells, List.length_map]; first | assumption | omega)) (by first | exact Nat.le_of_ble_eq_true rfl | omega | (simp only [AV.cells, List.length_map]; omega)) (by first | (simp only [setR, AV.cells, List.take_succ_cons, List.take_zero, List.drop_succ_cons, List.drop_zero, List.drop_nil, List.take_nil, List.nil_append, List.cons_append, List.append_nil, List.length_cons, List.length_nil, Nat.reduceAdd, Nat.zero_add, Nat.add_zero]; rfl) | rfl)) rfl rfl ⟨rfl, trivial⟩ ?_)
  refine arun_nil ?_
  refine awp_seq ?_
  refine awp_text (by kernel_rfl) ?_
  (refine r_run (a_loadN Try.underlying46 rfl sz46 (by first | exact Nat.le_of_ble_eq_true rfl | omega | (simp only [AV.cells, List.length_map]; omega)) (by first | exact take_all (by first | assumption | exact Nat.eq_of_beq_eq_true rfl | (simp only [AV.cells, List.length_map]; first | assumption | omega)) | (simp only [List.take_succ_cons, List.take_zero, List.drop_succ_cons, List.drop_zero]; rfl) | rfl)) rfl rfl ⟨rfl, trivial⟩ ?_)
  (refine r_pure (a_move (r := .row _)) rfl rfl ?_)
  (refine r_run (a_storeAll (Y := .agg _) sz46 rfl (by first | exact Nat.eq_of_beq_eq_true rfl | (simp only [AV.cells, List.length_map]; first | assumption | omega)) (Nat.eq_of_beq_eq_true rfl)) rfl rfl ⟨rfl, trivial⟩ ?_)
  (refine r_pure (a_assign (r := .row _)) rfl rfl ?_)
  (refine r_pure (a_assign (r := .p _)) rfl rfl ?_)
  refine arun_nil ?_
  refine awp_ret ?_
  refine ⟨(by first | exact .inl rfl | exact .inr rfl), _, (fun _ => 29), (.cellN _ _ _ _ _ _ _ _ _ rfl rfl Try.underlying46 rfl sz46 (by first | assumption | kernel_rfl) (.tmp _ _ _ _ rfl (.tmp _ _ _ _ rfl .nil))), ?_, rfl, ?_, rfl⟩
  · exact rfl
  · exact ⟨⟨rfl, rfl⟩, trivial⟩
set_option maxHeartbeats 2000000 in
theorem refKSeal_s (k : KY) (ok : k.OK) (now : Int) (n0 : -9223372036854775808 ≤ now) (n1 : now ≤ 9223372036854775807) (n : Nat) (b : List Int) (hb : b.length = n) (hB : isB b) :
    Fn Try.prog 32 [.agg k.cells, .p (.v (.int .i64 now)), .p (.sl n 1 (bs b))] (kRes (ksE k now n) (ksK k)) (bNew (ksE k now n) (n + 16) (sealD k.send k.counter b)) := by
  have hC := refKFault_s k ok
  have hF := refFresh_s k ok now n0 n1
  have hft := @freshB_true k now
  have hS := refSeal_s k.send k.counter n b hb hB
  have hE : ksE k now n = if kE k ≠ 0 then kE k else if freshB k now = false then 13 else sealE k.send k.counter n := rfl
  have hck : (ksK k).cells = [.p (.v (.bool k.live)), .p (.v (.string k.send)), .p (.v (.string k.take)), .p (.v (.int .i64 k.mine)), .p (.v (.int .i64 k.theirs)), .p (.v (.int .i64 k.born)), .p (.v (.int .i64 (k.counter + 1))), .p (.v (.bool k.ss)), .p (.v (.int .i64 k.sl)), .p (.v (.int .u64 k.sb)), .p (.v (.bool k.first))] := rfl
  generalize sealD k.send k.counter b = D at *
  by_cases h1 : kE k ≠ 0
  · rw [if_pos h1] at hE
    obtain ⟨e1, e2⟩ := kRes_bad hE h1 (ksK k) (n + 16) D
    rw [e1, e2]
    generalize kE k = e at *
    refine fn_intro Try.func32 rfl (Nat.le_of_ble_eq_true rfl) fun w0 A => ?_
    refine awp_seq ?_
    refine awp_text (by kernel_rfl) ?_
    (refine r_run (a_box (X := .agg _) 3 rfl) rfl rfl ⟨rfl, trivial⟩ ?_)
    (refine r_run (a_alloc 6 zr46 rfl) rfl rfl ⟨rfl, trivial⟩ ?_)
    (refine r_pure (a_assign (r := .p _)) rfl rfl ?_)
    (refine r_pure (a_assign (r := .p _)) rfl rfl ?_)
    refine arun_nil ?_
    refine awp_seq (awp_seq ?_)
    refine awp_text (by kernel_rfl) ?_
    (refine r_run (a_loadN Try.underlying46 rfl sz46 (by first | exact Nat.le_of_ble_eq_true rfl | omega | (simp only [AV.cells, List.length_map]; omega)) (by first | exact take_all (by first | assumption | exact Nat.eq_of_beq_eq_true rfl | (simp only [AV.cells, List.length_map]; first | assumption | omega)) | (simp only [List.take_succ_cons, List.take_zero, List.drop_succ_cons, List.drop_zero]; rfl) | rfl)) rfl rfl ⟨rfl, trivial⟩ ?_)
    (refine r_callV (fun n => 13 + 1000 * n) (hC) rfl rfl Try.func71 rfl rfl (by first | rfl | simp [AV.noSl, AV.noSlL, AObj.noSl, PV.isV, bs_noSl]) (by first | rfl | simp [AV.noSl, AV.noSlL, AObj.noSl, PV.isV, bs_noSl]) rfl rfl rfl (by first | exact trivial | exact ⟨rfl, trivial⟩ | exact ⟨rfl, rfl, trivial⟩) rfl rfl rfl ?_)
    (refine r_pure (a_assign (r := .p _)) rfl rfl ?_)
    refine arun_nil ?_
    refine awp_seq ?_
    refine awp_text (by kernel_rfl) ?_
    (refine r_pure (a_move (r := .p _)) rfl rfl ?_)
    (refine r_pure a_neq rfl rfl ?_)
    refine arun_nil ?_
    refine thn_n ?_
    refine awp_cond _ rfl (fun h => ?_) (fun h => ?_)
    · refine awp_seq ?_
      refine awp_text (by kernel_rfl) ?_
      (refine r_pure (b_build pl46 zr46 rfl rfl) rfl rfl ?_)
      (refine r_pure (a_move (r := .p _)) rfl rfl ?_)
      (refine r_run (a_storeAll (Y := .agg _) sz46 rfl (by first | exact Nat.eq_of_beq_eq_true rfl | (simp only [AV.cells, List.length_map]; first | assumption | omega)) (Nat.eq_of_beq_eq_true rfl)) rfl rfl ⟨rfl, trivial⟩ ?_)
      (refine r_pure (a_assign (r := .p _)) rfl rfl ?_)
      (refine r_pure (a_assign (r := .p _)) rfl rfl ?_)
      refine arun_nil ?_
      refine awp_ret (thn_r ?_)
      refine ⟨(by first | exact .inl rfl | exact .inr rfl), _, (fun o => o), (.cellN _ _ _ _ _ _ _ _ _ rfl rfl Try.underlying46 rfl sz46 (by first | assumption | kernel_rfl) (.tmp _ _ _ _ rfl (.tmp _ _ _ _ rfl .nil))), ?_, rfl, ?_, rfl⟩
      · exact rfl
      · exact trivial
    · exact absurd (by simpa using h) h1
  rw [if_neg h1] at hE
  replace h1 : kE k = 0 := Decidable.not_not.1 h1
  rw [h1] at hC
  cases hfr : freshB k now with
  | false =>
    rw [hfr] at hE hF
    rw [if_pos rfl] at hE
    obtain ⟨e1, e2⟩ := kRes_bad hE (by decide) (ksK k) (n + 16) D
    rw [e1, e2]
    refine fn_intro Try.func32 rfl (Nat.le_of_ble_eq_true rfl) fun w0 A => ?_
    refine awp_seq ?_
    refine awp_text (by kernel_rfl) ?_
    (refine r_run (a_box (X := .agg _) 3 rfl) rfl rfl ⟨rfl, trivial⟩ ?_)
    (refine r_run (a_alloc 6 zr46 rfl) rfl rfl ⟨rfl, trivial⟩ ?_)
    (refine r_pure (a_assign (r := .p _)) rfl rfl ?_)
    (refine r_pure (a_assign (r := .p _)) rfl rfl ?_)
    refine arun_nil ?_
    refine awp_seq (awp_seq ?_)
    refine awp_text (by kernel_rfl) ?_
    (refine r_run (a_loadN Try.underlying46 rfl sz46 (by first | exact Nat.le_of_ble_eq_true rfl | omega | (simp only [AV.cells, List.length_map]; omega)) (by first | exact take_all (by first | assumption | exact Nat.eq_of_beq_eq_true rfl | (simp only [AV.cells, List.length_map]; first | assumption | omega)) | (simp only [List.take_succ_cons, List.take_zero, List.drop_succ_cons, List.drop_zero]; rfl) | rfl)) rfl rfl ⟨rfl, trivial⟩ ?_)
    (refine r_callV (fun n => 13 + 1000 * n) (hC) rfl rfl Try.func71 rfl rfl (by first | rfl | simp [AV.noSl, AV.noSlL, AObj.noSl, PV.isV, bs_noSl]) (by first | rfl | simp [AV.noSl, AV.noSlL, AObj.noSl, PV.isV, bs_noSl]) rfl rfl rfl (by first | exact trivial | exact ⟨rfl, trivial⟩ | exact ⟨rfl, rfl, trivial⟩) rfl rfl rfl ?_)
    (refine r_pure (a_assign (r := .p _)) rfl rfl ?_)
    refine arun_nil ?_
    refine awp_seq ?_
    refine awp_text (by kernel_rfl) ?_
    (refine r_pure (a_move (r := .p _)) rfl rfl ?_)
    (refine r_pure a_neqT rfl rfl ?_)
    refine arun_nil ?_
    refine thn_n ?_
    refine awp_cond _ rfl (fun h => ?_) (fun h => ?_)
    · cases h
    refine awp_skip (awp_seq (awp_seq ?_))
    refine awp_text (by kernel_rfl) ?_
    (refine r_run (a_loadN Try.underlying46 rfl sz46 (by first | exact Nat.le_of_ble_eq_true rfl | omega | (simp only [AV.cells, List.length_map]; omega)) (by first | exact take_all (by first | assumption | exact Nat.eq_of_beq_eq_true rfl | (simp only [AV.cells, List.length_map]; first | assumption | omega)) | (simp only [List.take_succ_cons, List.take_zero, List.drop_succ_cons, List.drop_zero]; rfl) | rfl)) rfl rfl ⟨rfl, trivial⟩ ?_)
    (refine r_pure (a_move (r := .p _)) rfl rfl ?_)
    (refine r_callV (fun n => 20 + 1000 * n) (hF) rfl rfl Try.func74 rfl rfl (by first | rfl | simp [AV.noSl, AV.noSlL, AObj.noSl, PV.isV, bs_noSl]) (by first | rfl | simp [AV.noSl, AV.noSlL, AObj.noSl, PV.isV, bs_noSl]) rfl rfl rfl (by first | exact trivial | exact ⟨rfl, trivial⟩ | exact ⟨rfl, rfl, trivial⟩) rfl rfl rfl ?_)
    (refine r_pure a_not rfl rfl ?_)
    refine arun_nil ?_
    refine thn_n ?_
    refine awp_cond _ rfl (fun h => ?_) (fun h => ?_)
    · refine awp_seq ?_
      refine awp_text (by kernel_rfl) ?_
      (refine r_pure (b_build pl46 zr46 rfl rfl) rfl rfl ?_)
      (refine r_run (a_storeAll (Y := .agg _) sz46 rfl (by first | exact Nat.eq_of_beq_eq_true rfl | (simp only [AV.cells, List.length_map]; first | assumption | omega)) (Nat.eq_of_beq_eq_true rfl)) rfl rfl ⟨rfl, trivial⟩ ?_)
      (refine r_pure (a_assign (r := .p _)) rfl rfl ?_)
      (refine r_pure (a_assign (r := .p _)) rfl rfl ?_)
      refine arun_nil ?_
      refine awp_ret (thn_r ?_)
      refine ⟨(by first | exact .inl rfl | exact .inr rfl), _, (fun o => o), (.cellN _ _ _ _ _ _ _ _ _ rfl rfl Try.underlying46 rfl sz46 (by first | assumption | kernel_rfl) (.tmp _ _ _ _ rfl (.tmp _ _ _ _ rfl .nil))), ?_, rfl, ?_, rfl⟩
      · exact rfl
      · exact trivial
    · cases h
  | true =>
  rw [hfr] at hE hF
  rw [if_neg (by simp)] at hE
  have hbd := hft hfr
  by_cases h2 : sealE k.send k.counter n ≠ 0
  · obtain ⟨e1, e2⟩ := kRes_bad hE h2 (ksK k) (n + 16) D
    rw [e1, e2]
    obtain ⟨e1, e2⟩ := bRes_bad (e' := sealE k.send k.counter n) rfl h2 (n + 16) D
    rw [e1, e2] at hS
    clear hE e1 e2
    generalize sealE k.send k.counter n = e at *
    refine fn_intro Try.func32 rfl (Nat.le_of_ble_eq_true rfl) fun w0 A => ?_
    refine awp_seq ?_
    refine awp_text (by kernel_rfl) ?_
    (refine r_run (a_box (X := .agg _) 3 rfl) rfl rfl ⟨rfl, trivial⟩ ?_)
    (refine r_run (a_alloc 6 zr46 rfl) rfl rfl ⟨rfl, trivial⟩ ?_)
    (refine r_pure (a_assign (r := .p _)) rfl rfl ?_)
    (refine r_pure (a_assign (r := .p _)) rfl rfl ?_)
    refine arun_nil ?_
    refine awp_seq (awp_seq ?_)
    refine awp_text (by kernel_rfl) ?_
    (refine r_run (a_loadN Try.underlying46 rfl sz46 (by first | exact Nat.le_of_ble_eq_true rfl | omega | (simp only [AV.cells, List.length_map]; omega)) (by first | exact take_all (by first | assumption | exact Nat.eq_of_beq_eq_true rfl | (simp only [AV.cells, List.length_map]; first | assumption | omega)) | (simp only [List.take_succ_cons, List.take_zero, List.drop_succ_cons, List.drop_zero]; rfl) | rfl)) rfl rfl ⟨rfl, trivial⟩ ?_)
    (refine r_callV (fun n => 13 + 1000 * n) (hC) rfl rfl Try.func71 rfl rfl (by first | rfl | simp [AV.noSl, AV.noSlL, AObj.noSl, PV.isV, bs_noSl]) (by first | rfl | simp [AV.noSl, AV.noSlL, AObj.noSl, PV.isV, bs_noSl]) rfl rfl rfl (by first | exact trivial | exact ⟨rfl, trivial⟩ | exact ⟨rfl, rfl, trivial⟩) rfl rfl rfl ?_)
    (refine r_pure (a_assign (r := .p _)) rfl rfl ?_)
    refine arun_nil ?_
    refine awp_seq ?_
    refine awp_text (by kernel_rfl) ?_
    (refine r_pure (a_move (r := .p _)) rfl rfl ?_)
    (refine r_pure a_neqT rfl rfl ?_)
    refine arun_nil ?_
    refine thn_n ?_
    refine awp_cond _ rfl (fun h => ?_) (fun h => ?_)
    · cases h
    refine awp_skip (awp_seq (awp_seq ?_))
    refine awp_text (by kernel_rfl) ?_
    (refine r_run (a_loadN Try.underlying46 rfl sz46 (by first | exact Nat.le_of_ble_eq_true rfl | omega | (simp only [AV.cells, List.length_map]; omega)) (by first | exact take_all (by first | assumption | exact Nat.eq_of_beq_eq_true rfl | (simp only [AV.cells, List.length_map]; first | assumption | omega)) | (simp only [List.take_succ_cons, List.take_zero, List.drop_succ_cons, List.drop_zero]; rfl) | rfl)) rfl rfl ⟨rfl, trivial⟩ ?_)
    (refine r_pure (a_move (r := .p _)) rfl rfl ?_)
    (refine r_callV (fun n => 20 + 1000 * n) (hF) rfl rfl Try.func74 rfl rfl (by first | rfl | simp [AV.noSl, AV.noSlL, AObj.noSl, PV.isV, bs_noSl]) (by first | rfl | simp [AV.noSl, AV.noSlL, AObj.noSl, PV.isV, bs_noSl]) rfl rfl rfl (by first | exact trivial | exact ⟨rfl, trivial⟩ | exact ⟨rfl, rfl, trivial⟩) rfl rfl rfl ?_)
    (refine r_pure a_not rfl rfl ?_)
    refine arun_nil ?_
    refine thn_n ?_
    refine awp_cond _ rfl (fun h => ?_) (fun h => ?_)
    · cases h
    refine awp_skip (awp_seq ?_)
    refine awp_text (by kernel_rfl) ?_
    (refine r_pure (b_fieldAddr fi46_1 rfl) rfl rfl ?_)
    (refine r_run (a_load1 Try.underlying9 rfl (by first | rfl | assumption)) rfl rfl ⟨rfl, trivial⟩ ?_)
    (refine r_pure (b_fieldAddr fi46_6 rfl) rfl rfl ?_)
    (refine r_run (a_load1 Try.underlying3 rfl (by first | rfl | assumption)) rfl rfl ⟨rfl, trivial⟩ ?_)
    (refine r_pure (a_move (r := .p _)) rfl rfl ?_)
    (refine r_callV (fun n => 29 + 1000 * n) (hS) rfl rfl Try.func75 rfl rfl (by first | rfl | simp [AV.noSl, AV.noSlL, AObj.noSl, PV.isV, bs_noSl]) (by first | rfl | simp [AV.noSl, AV.noSlL, AObj.noSl, PV.isV, bs_noSl]) rfl rfl rfl (by first | exact trivial | exact ⟨rfl, trivial⟩ | exact ⟨rfl, rfl, trivial⟩) rfl rfl rfl ?_)
    (refine r_pure (a_move (r := .tup _)) rfl rfl ?_)
    (refine r_pure (a_extract rfl) rfl rfl ?_)
    (refine r_pure (a_extract rfl) rfl rfl ?_)
    (refine r_pure (a_assign (r := .p _)) rfl rfl ?_)
    (refine r_pure (a_assign (r := .p _)) rfl rfl ?_)
    refine arun_nil ?_
    refine awp_seq (awp_seq ?_)
    refine awp_text (by kernel_rfl) ?_
    (refine r_pure (a_move (r := .p _)) rfl rfl ?_)
    (refine r_pure a_neq rfl rfl ?_)
    refine arun_nil ?_
    refine thn_n ?_
    refine awp_cond _ rfl (fun h => ?_) (fun h => ?_)
    · refine awp_seq ?_
      refine awp_text (by kernel_rfl) ?_
      (refine r_pure (b_build pl46 zr46 rfl rfl) rfl rfl ?_)
      (refine r_pure (a_move (r := .p _)) rfl rfl ?_)
      (refine r_run (a_storeAll (Y := .agg _) sz46 rfl (by first | exact Nat.eq_of_beq_eq_true rfl | (simp only [AV.cells, List.length_map]; first | assumption | omega)) (Nat.eq_of_beq_eq_true rfl)) rfl rfl ⟨rfl, trivial⟩ ?_)
      (refine r_pure (a_assign (r := .p _)) rfl rfl ?_)
      (refine r_pure (a_assign (r := .p _)) rfl rfl ?_)
      refine arun_nil ?_
      refine awp_ret (thn_r ?_)
      refine ⟨(by first | exact .inl rfl | exact .inr rfl), _, (fun o => o), (.cellN _ _ _ _ _ _ _ _ _ rfl rfl Try.underlying46 rfl sz46 (by first | assumption | kernel_rfl) (.tmp _ _ _ _ rfl (.tmp _ _ _ _ rfl .nil))), ?_, rfl, ?_, rfl⟩
      · exact rfl
      · exact trivial
    · exact absurd (by simpa using h) h2
  replace h2 : sealE k.send k.counter n = 0 := Decidable.not_not.1 h2
  obtain ⟨e1, e2⟩ := kRes_good (hE.trans h2) (ksK k) (n + 16) D
  rw [e1, e2, hck]
  obtain ⟨e1, e2⟩ := bRes_good h2 (n + 16) D
  rw [e1, e2] at hS
  clear hE e1 e2 hck
  refine fn_intro Try.func32 rfl (Nat.le_of_ble_eq_true rfl) fun w0 A => ?_
  refine awp_seq ?_
  refine awp_text (by kernel_rfl) ?_
  (refine r_run (a_box (X := .agg _) 3 rfl) rfl rfl ⟨rfl, trivial⟩ ?_)
  (refine r_run (a_alloc 6 zr46 rfl) rfl rfl ⟨rfl, trivial⟩ ?_)
  (refine r_pure (a_assign (r := .p _)) rfl rfl ?_)
  (refine r_pure (a_assign (r := .p _)) rfl rfl ?_)
  refine arun_nil ?_
  refine awp_seq (awp_seq ?_)
  refine awp_text (by kernel_rfl) ?_
  (refine r_run (a_loadN Try.underlying46 rfl sz46 (by first | exact Nat.le_of_ble_eq_true rfl | omega | (simp only [AV.cells, List.length_map]; omega)) (by first | exact take_all (by first | assumption | exact Nat.eq_of_beq_eq_true rfl | (simp only [AV.cells, List.length_map]; first | assumption | omega)) | (simp only [List.take_succ_cons, List.take_zero, List.drop_succ_cons, List.drop_zero]; rfl) | rfl)) rfl rfl ⟨rfl, trivial⟩ ?_)
  (refine r_callV (fun n => 13 + 1000 * n) (hC) rfl rfl Try.func71 rfl rfl (by first | rfl | simp [AV.noSl, AV.noSlL, AObj.noSl, PV.isV, bs_noSl]) (by first | rfl | simp [AV.noSl, AV.noSlL, AObj.noSl, PV.isV, bs_noSl]) rfl rfl rfl (by first | exact trivial | exact ⟨rfl, trivial⟩ | exact ⟨rfl, rfl, trivial⟩) rfl rfl rfl ?_)
  (refine r_pure (a_assign (r := .p _)) rfl rfl ?_)
  refine arun_nil ?_
  refine awp_seq ?_
  refine awp_text (by kernel_rfl) ?_
  (refine r_pure (a_move (r := .p _)) rfl rfl ?_)
  (refine r_pure a_neqT rfl rfl ?_)
  refine arun_nil ?_
  refine thn_n ?_
  refine awp_cond _ rfl (fun h => ?_) (fun h => ?_)
  · cases h
  refine awp_skip (awp_seq (awp_seq ?_))
  refine awp_text (by kernel_rfl) ?_
  (refine r_run (a_loadN Try.underlying46 rfl sz46 (by first | exact Nat.le_of_ble_eq_true rfl | omega | (simp only [AV.cells, List.length_map]; omega)) (by first | exact take_all (by first | assumption | exact Nat.eq_of_beq_eq_true rfl | (simp only [AV.cells, List.length_map]; first | assumption | omega)) | (simp only [List.take_succ_cons, List.take_zero, List.drop_succ_cons, List.drop_zero]; rfl) | rfl)) rfl rfl ⟨rfl, trivial⟩ ?_)
  (refine r_pure (a_move (r := .p _)) rfl rfl ?_)
  (refine r_callV (fun n => 20 + 1000 * n) (hF) rfl rfl Try.func74 rfl rfl (by first | rfl | simp [AV.noSl, AV.noSlL, AObj.noSl, PV.isV, bs_noSl]) (by first | rfl | simp [AV.noSl, AV.noSlL, AObj.noSl, PV.isV, bs_noSl]) rfl rfl rfl (by first | exact trivial | exact ⟨rfl, trivial⟩ | exact ⟨rfl, rfl, trivial⟩) rfl rfl rfl ?_)
  (refine r_pure a_not rfl rfl ?_)
  refine arun_nil ?_
  refine thn_n ?_
  refine awp_cond _ rfl (fun h => ?_) (fun h => ?_)
  · cases h
  refine awp_skip (awp_seq ?_)
  refine awp_text (by kernel_rfl) ?_
  (refine r_pure (b_fieldAddr fi46_1 rfl) rfl rfl ?_)
  (refine r_run (a_load1 Try.underlying9 rfl (by first | rfl | assumption)) rfl rfl ⟨rfl, trivial⟩ ?_)
  (refine r_pure (b_fieldAddr fi46_6 rfl) rfl rfl ?_)
  (refine r_run (a_load1 Try.underlying3 rfl (by first | rfl | assumption)) rfl rfl ⟨rfl, trivial⟩ ?_)
  (refine r_pure (a_move (r := .p _)) rfl rfl ?_)
  (refine r_callV (fun n => 29 + 1000 * n) (hS) rfl rfl Try.func75 rfl rfl (by first | rfl | simp [AV.noSl, AV.noSlL, AObj.noSl, PV.isV, bs_noSl]) (by first | rfl | simp [AV.noSl, AV.noSlL, AObj.noSl, PV.isV, bs_noSl]) rfl rfl rfl (by first | exact trivial | exact ⟨rfl, trivial⟩ | exact ⟨rfl, rfl, trivial⟩) rfl rfl rfl ?_)
  (refine r_pure (a_move (r := .tup _)) rfl rfl ?_)
  (refine r_pure (a_extract rfl) rfl rfl ?_)
  (refine r_pure (a_extract rfl) rfl rfl ?_)
  (refine r_pure (a_assign (r := .row _)) rfl rfl ?_)
  (refine r_pure (a_assign (r := .p _)) rfl rfl ?_)
  refine arun_nil ?_
  refine awp_seq (awp_seq ?_)
  refine awp_text (by kernel_rfl) ?_
  (refine r_pure (a_move (r := .p _)) rfl rfl ?_)
  (refine r_pure a_neqT rfl rfl ?_)
  refine arun_nil ?_
  refine thn_n ?_
  refine awp_cond _ rfl (fun h => ?_) (fun h => ?_)
  · cases h
  refine awp_skip (awp_seq ?_)
  refine awp_text (by kernel_rfl) ?_
  (refine r_pure (b_fieldAddr fi46_6 rfl) rfl rfl ?_)
  (refine r_run (a_load1 Try.underlying3 rfl (by first | rfl | assumption)) rfl rfl ⟨rfl, trivial⟩ ?_)
  (refine r_pure (a_add (by first | exact IntWalk.i64_in _ (by omega) | rfl)) rfl rfl ?_)
  (refine r_pure (b_fieldAddr fi46_6 rfl) rfl rfl ?_)
  (refine r_run (a_store (Y := .p _) sz3 rfl (by first | exact Nat.eq_of_beq_eq_true rfl | (simp only [AV.cells, List.length_map]; first | assumption | omega)) (by first | exact Nat.le_of_ble_eq_true rfl | omega | (simp only [AV.cells, List.length_map]; omega)) (by first | (simp only [setR, AV.cells, List.take_succ_cons, List.take_zero, List.drop_succ_cons, List.drop_zero, List.drop_nil, List.take_nil, List.nil_append, List.cons_append, List.append_nil, List.length_cons, List.length_nil, Nat.reduceAdd, Nat.zero_add, Nat.add_zero]; rfl) | rfl)) rfl rfl ⟨rfl, trivial⟩ ?_)
  refine arun_nil ?_
  refine awp_seq ?_
  refine awp_text (by kernel_rfl) ?_
  (refine r_run (a_loadN Try.underlying46 rfl sz46 (by first | exact Nat.le_of_ble_eq_true rfl | omega | (simp only [AV.cells, List.length_map]; omega)) (by first | exact take_all (by first | assumption | exact Nat.eq_of_beq_eq_true rfl | (simp only [AV.cells, List.length_map]; first | assumption | omega)) | (simp only [List.take_succ_cons, List.take_zero, List.drop_succ_cons, List.drop_zero]; rfl) | rfl)) rfl rfl ⟨rfl, trivial⟩ ?_)
  (refine r_pure (a_move (r := .row _)) rfl rfl ?_)
  (refine r_run (a_storeAll (Y := .agg _) sz46 rfl (by first | exact Nat.eq_of_beq_eq_true rfl | (simp only [AV.cells, List.length_map]; first | assumption | omega)) (Nat.eq_of_beq_eq_true rfl)) rfl rfl ⟨rfl, trivial⟩ ?_)
  (refine r_pure (a_assign (r := .row _)) rfl rfl ?_)
  (refine r_pure (a_assign (r := .p _)) rfl rfl ?_)
  refine arun_nil ?_
  refine awp_ret ?_
  refine ⟨(by first | exact .inl rfl | exact .inr rfl), _, (fun _ => 29), (.cellN _ _ _ _ _ _ _ _ _ rfl rfl Try.underlying46 rfl sz46 (by first | assumption | kernel_rfl) (.tmp _ _ _ _ rfl (.tmp _ _ _ _ rfl .nil))), ?_, rfl, ?_, rfl⟩
  · exact rfl
  · exact ⟨⟨rfl, rfl⟩, trivial⟩

/-! opening -/
noncomputable def koE (k : KY) (now c : Int) (b : List Int) : Int := if kE k ≠ 0 then kE k else if k.live = false ∨ now < k.born ∨ 180 ≤ now - k.born then 13 else if openE k.take c b ≠ 0 then openE k.take c b else takeE k.ss k.sl k.sb c
def koK (k : KY) (c : Int) : KY := { k with ss := takeS k.ss k.sl k.sb c, sl := takeL k.ss k.sl k.sb c, sb := takeB k.ss k.sl k.sb c }
theorem take_rep {S : Nat → Prop} {m : Nat → Option Value} {w : World} (s : Bool) (l b e : Int) : Rep S m w (.tup [.agg [.p (.v (.bool s)), .p (.v (.int .i64 l)), .p (.v (.int .u64 b))], .p (.v (.int .i64 e))]) (.tuple #[.agg #[.bool s, .int .i64 l, .int .u64 b], .int .i64 e]) := by
  simp only [Rep]
  refine ⟨_, rfl, ?_⟩
  simp only [RepL, Rep, PRep]
  exact ⟨_, _, rfl, ⟨_, rfl, ⟨_, _, rfl, ⟨rfl, rfl⟩, _, _, rfl, ⟨rfl, rfl⟩, _, _, rfl, ⟨rfl, rfl⟩, rfl⟩, by intro x hx; simp at hx; rcases hx with rfl | rfl | rfl <;> rfl⟩, _, _, rfl, ⟨rfl, rfl⟩, rfl⟩
theorem winTake_s (s : Bool) (l b n : Int) (hb0 : 0 ≤ b) (hb1 : b < 18446744073709551616) (hl0 : -9223372036854775808 ≤ l) (hl1 : l < 9223372036854775808) (hn0 : -9223372036854775808 ≤ n) (hn1 : n < 9223372036854775808) :
    Fn Try.prog 77 [.agg [.p (.v (.bool s)), .p (.v (.int .i64 l)), .p (.v (.int .u64 b))], .p (.v (.int .i64 n))] (.tup [.agg [.p (.v (.bool (takeS s l b n))), .p (.v (.int .i64 (takeL s l b n))), .p (.v (.int .u64 (takeB s l b n)))], .p (.v (.int .i64 (takeE s l b n)))]) [] :=
  fn_gives rfl (fun _ _ _ => take_rep _ _ _ _) (winTake_g s l b n hb0 hb1 hl0 hl1 hn0 hn1)
theorem refWinTake_s (s : Bool) (l b n : Int) (hb0 : 0 ≤ b) (hb1 : b < 18446744073709551616) (hl0 : -9223372036854775808 ≤ l) (hl1 : l < 9223372036854775808) (hn0 : -9223372036854775808 ≤ n) (hn1 : n < 9223372036854775808) :
    Fn Try.prog 79 [.agg [.p (.v (.bool s)), .p (.v (.int .i64 l)), .p (.v (.int .u64 b))], .p (.v (.int .i64 n))] (.tup [.agg [.p (.v (.bool (takeS s l b n))), .p (.v (.int .i64 (takeL s l b n))), .p (.v (.int .u64 (takeB s l b n)))], .p (.v (.int .i64 (takeE s l b n)))]) [] :=
  fn_gives rfl (fun _ _ _ => take_rep _ _ _ _) (refWinTake_g s l b n hb0 hb1 hl0 hl1 hn0 hn1)

set_option maxHeartbeats 4000000 in
theorem kOpen_s (k : KY) (ok : k.OK) (now : Int) (n0 : -9223372036854775808 ≤ now) (n1 : now ≤ 9223372036854775807) (c : Int) (c0 : -9223372036854775808 ≤ c) (c1 : c ≤ 9223372036854775807) (n : Nat) (b : List Int) (hb : b.length = n) (hB : isB b) (hn : n ≤ 9223372036854775807) :
    Fn Try.prog 34 [.agg k.cells, .p (.v (.int .i64 now)), .p (.v (.int .i64 c)), .p (.sl n 1 (bs b))] (kRes (koE k now c b) (koK k c)) (bNew (koE k now c b) (opN b) (openD k.take c b)) := by
  have hC := kcheck_s k ok
  have hbd := @kE_bounds k
  have hS := open_s k.take c n b hb hB hn
  have hT := winTake_s k.ss k.sl k.sb c ok.sb0 ok.sb1 ok.sl0 ok.sl1 c0 (by omega)
  have hE : koE k now c b = if kE k ≠ 0 then kE k else if k.live = false ∨ now < k.born ∨ 180 ≤ now - k.born then 13 else if openE k.take c b ≠ 0 then openE k.take c b else takeE k.ss k.sl k.sb c := rfl
  have hck : (koK k c).cells = [.p (.v (.bool k.live)), .p (.v (.string k.send)), .p (.v (.string k.take)), .p (.v (.int .i64 k.mine)), .p (.v (.int .i64 k.theirs)), .p (.v (.int .i64 k.born)), .p (.v (.int .i64 k.counter)), .p (.v (.bool (takeS k.ss k.sl k.sb c))), .p (.v (.int .i64 (takeL k.ss k.sl k.sb c))), .p (.v (.int .u64 (takeB k.ss k.sl k.sb c))), .p (.v (.bool k.first))] := rfl
  generalize openD k.take c b = D at *
  generalize opN b = N at *
  generalize takeS k.ss k.sl k.sb c = ts at *
  generalize takeL k.ss k.sl k.sb c = tl at *
  generalize takeB k.ss k.sl k.sb c = tb at *
  by_cases h1 : kE k ≠ 0
  · rw [if_pos h1] at hE
    obtain ⟨e1, e2⟩ := kRes_bad hE h1 (koK k c) N D
    rw [e1, e2]
    clear hbd
    generalize kE k = e at *
    refine fn_intro Try.func34 rfl (Nat.le_of_ble_eq_true rfl) fun w0 A => ?_
    refine awp_seq ?_
    refine awp_text (by kernel_rfl) ?_
    (refine r_run (a_box (X := .agg _) 4 rfl) rfl rfl ⟨rfl, trivial⟩ ?_)
    (refine r_run (a_alloc 8 zr46 rfl) rfl rfl ⟨rfl, trivial⟩ ?_)
    (refine r_pure (a_assign (r := .p _)) rfl rfl ?_)
    (refine r_pure (a_assign (r := .p _)) rfl rfl ?_)
    refine arun_nil ?_
    refine awp_seq (awp_seq ?_)
    refine awp_text (by kernel_rfl) ?_
    (refine r_run (a_loadN Try.underlying46 rfl sz46 (by first | exact Nat.le_of_ble_eq_true rfl | omega | (simp only [AV.cells, List.length_map]; omega)) (by first | exact take_all (by first | assumption | exact Nat.eq_of_beq_eq_true rfl | (simp only [AV.cells, List.length_map]; first | assumption | omega)) | (simp only [List.take_succ_cons, List.take_zero, List.drop_succ_cons, List.drop_zero]; rfl) | rfl)) rfl rfl ⟨rfl, trivial⟩ ?_)
    (refine r_callV (fun n => 16 + 1000 * n) (hC) rfl rfl Try.func68 rfl rfl (by first | rfl | simp [AV.noSl, AV.noSlL, AObj.noSl, PV.isV, bs_noSl]) (by first | rfl | simp [AV.noSl, AV.noSlL, AObj.noSl, PV.isV, bs_noSl]) rfl rfl rfl (by first | exact trivial | exact ⟨rfl, trivial⟩ | exact ⟨rfl, rfl, trivial⟩) rfl rfl rfl ?_)
    (refine r_pure (a_assign (r := .p _)) rfl rfl ?_)
    refine arun_nil ?_
    refine awp_seq ?_
    refine awp_text (by kernel_rfl) ?_
    (refine r_pure (a_move (r := .p _)) rfl rfl ?_)
    (refine r_pure a_neq rfl rfl ?_)
    refine arun_nil ?_
    refine thn_n ?_
    refine awp_cond _ rfl (fun h => ?_) (fun h => ?_)
    · refine awp_seq ?_
      refine awp_text (by kernel_rfl) ?_
      (refine r_pure (b_build pl46 zr46 rfl rfl) rfl rfl ?_)
      (refine r_pure (a_move (r := .p _)) rfl rfl ?_)
      (refine r_run (a_storeAll (Y := .agg _) sz46 rfl (by first | exact Nat.eq_of_beq_eq_true rfl | (simp only [AV.cells, List.length_map]; first | assumption | omega)) (Nat.eq_of_beq_eq_true rfl)) rfl rfl ⟨rfl, trivial⟩ ?_)
      (refine r_pure (a_assign (r := .p _)) rfl rfl ?_)
      (refine r_pure (a_assign (r := .p _)) rfl rfl ?_)
      refine arun_nil ?_
      refine awp_ret (thn_r ?_)
      refine ⟨(by first | exact .inl rfl | exact .inr rfl), _, (fun o => o), (.cellN _ _ _ _ _ _ _ _ _ rfl rfl Try.underlying46 rfl sz46 (by first | assumption | kernel_rfl) (.tmp _ _ _ _ rfl (.tmp _ _ _ _ rfl .nil))), ?_, rfl, ?_, rfl⟩
      · exact rfl
      · exact trivial
    · exact absurd (by simpa using h) h1
  rw [if_neg h1] at hE
  replace h1 : kE k = 0 := Decidable.not_not.1 h1
  rw [h1] at hC
  replace hbd := hbd h1
  by_cases h2 : k.live = false ∨ now < k.born ∨ 180 ≤ now - k.born
  · rw [if_pos h2] at hE
    obtain ⟨e1, e2⟩ := kRes_bad hE (by decide) (koK k c) N D
    rw [e1, e2]
    refine fn_intro Try.func34 rfl (Nat.le_of_ble_eq_true rfl) fun w0 A => ?_
    refine awp_seq ?_
    refine awp_text (by kernel_rfl) ?_
    (refine r_run (a_box (X := .agg _) 4 rfl) rfl rfl ⟨rfl, trivial⟩ ?_)
    (refine r_run (a_alloc 8 zr46 rfl) rfl rfl ⟨rfl, trivial⟩ ?_)
    (refine r_pure (a_assign (r := .p _)) rfl rfl ?_)
    (refine r_pure (a_assign (r := .p _)) rfl rfl ?_)
    refine arun_nil ?_
    refine awp_seq (awp_seq ?_)
    refine awp_text (by kernel_rfl) ?_
    (refine r_run (a_loadN Try.underlying46 rfl sz46 (by first | exact Nat.le_of_ble_eq_true rfl | omega | (simp only [AV.cells, List.length_map]; omega)) (by first | exact take_all (by first | assumption | exact Nat.eq_of_beq_eq_true rfl | (simp only [AV.cells, List.length_map]; first | assumption | omega)) | (simp only [List.take_succ_cons, List.take_zero, List.drop_succ_cons, List.drop_zero]; rfl) | rfl)) rfl rfl ⟨rfl, trivial⟩ ?_)
    (refine r_callV (fun n => 16 + 1000 * n) (hC) rfl rfl Try.func68 rfl rfl (by first | rfl | simp [AV.noSl, AV.noSlL, AObj.noSl, PV.isV, bs_noSl]) (by first | rfl | simp [AV.noSl, AV.noSlL, AObj.noSl, PV.isV, bs_noSl]) rfl rfl rfl (by first | exact trivial | exact ⟨rfl, trivial⟩ | exact ⟨rfl, rfl, trivial⟩) rfl rfl rfl ?_)
    (refine r_pure (a_assign (r := .p _)) rfl rfl ?_)
    refine arun_nil ?_
    refine awp_seq ?_
    refine awp_text (by kernel_rfl) ?_
    (refine r_pure (a_move (r := .p _)) rfl rfl ?_)
    (refine r_pure a_neqT rfl rfl ?_)
    refine arun_nil ?_
    refine thn_n ?_
    refine awp_cond _ rfl (fun h => ?_) (fun h => ?_)
    · cases h
    refine awp_skip (awp_seq (awp_seq ?_))
    refine awp_text (by kernel_rfl) ?_
    (refine r_pure (b_fieldAddr fi46_0 rfl) rfl rfl ?_)
    (refine r_run (a_load1 Try.underlying4 rfl (by first | rfl | assumption)) rfl rfl ⟨rfl, trivial⟩ ?_)
    (refine r_pure a_not rfl rfl ?_)
    (refine r_pure (a_move (r := .p _)) rfl rfl ?_)
    (refine r_mb2 _ rfl rfl (by (repeat (first | exact stripOK_nil | refine stripOK_mb id ?_ | refine stripOK_p ?_ | refine stripOK_ref ?_ | refine stripOK_row ?_ | refine stripOK_ptr ?_ | refine stripOK_agg ?_ | refine stripOK_mb (by simp_all) ?_ | refine StripOK.plain _ _ rfl ?_))) (fun hb => (a_move (r := .p _))) (fun _ => trivial) ?_)
    (refine r_mb2 _ rfl rfl (by (repeat (first | exact stripOK_nil | refine stripOK_mb id ?_ | refine stripOK_p ?_ | refine stripOK_ref ?_ | refine stripOK_row ?_ | refine stripOK_ptr ?_ | refine stripOK_agg ?_ | refine stripOK_mb (by simp_all) ?_ | refine StripOK.plain _ _ rfl ?_))) (fun hb => (b_fieldAddr fi46_5 rfl)) (fun _ => trivial) ?_)
    (refine r_mb2 _ rfl rfl (by (repeat (first | exact stripOK_nil | refine stripOK_mb id ?_ | refine stripOK_p ?_ | refine stripOK_ref ?_ | refine stripOK_row ?_ | refine stripOK_ptr ?_ | refine stripOK_agg ?_ | refine stripOK_mb (by simp_all) ?_ | refine StripOK.plain _ _ rfl ?_))) (fun hb => (a_load1 Try.underlying3 rfl (by first | rfl | assumption))) (fun _ => ⟨rfl, trivial⟩) ?_)
    (refine r_mb2 _ rfl rfl (by (repeat (first | exact stripOK_nil | refine stripOK_mb id ?_ | refine stripOK_p ?_ | refine stripOK_ref ?_ | refine stripOK_row ?_ | refine stripOK_ptr ?_ | refine stripOK_agg ?_ | refine stripOK_mb (by simp_all) ?_ | refine StripOK.plain _ _ rfl ?_))) (fun hb => a_lss) (fun _ => trivial) ?_)
    (refine r_pure (a_or (by first | exact id | (simp; done) | grind)) rfl rfl ?_)
    (refine r_pure (a_move (r := .p _)) rfl rfl ?_)
    (refine r_mb2 _ rfl rfl (by (repeat (first | exact stripOK_nil | refine stripOK_mb id ?_ | refine stripOK_p ?_ | refine stripOK_ref ?_ | refine stripOK_row ?_ | refine stripOK_ptr ?_ | refine stripOK_agg ?_ | refine stripOK_mb (by simp_all) ?_ | refine StripOK.plain _ _ rfl ?_))) (fun hb => (a_move (r := .p _))) (fun _ => trivial) ?_)
    (refine r_mb2 _ rfl rfl (by (repeat (first | exact stripOK_nil | refine stripOK_mb id ?_ | refine stripOK_p ?_ | refine stripOK_ref ?_ | refine stripOK_row ?_ | refine stripOK_ptr ?_ | refine stripOK_agg ?_ | refine stripOK_mb (by simp_all) ?_ | refine StripOK.plain _ _ rfl ?_))) (fun hb => (b_fieldAddr fi46_5 rfl)) (fun _ => trivial) ?_)
    (refine r_mb2 _ rfl rfl (by (repeat (first | exact stripOK_nil | refine stripOK_mb id ?_ | refine stripOK_p ?_ | refine stripOK_ref ?_ | refine stripOK_row ?_ | refine stripOK_ptr ?_ | refine stripOK_agg ?_ | refine stripOK_mb (by simp_all) ?_ | refine StripOK.plain _ _ rfl ?_))) (fun hb => (a_load1 Try.underlying3 rfl (by first | rfl | assumption))) (fun _ => ⟨rfl, trivial⟩) ?_)
    (refine r_mb2 _ rfl rfl (by (repeat (first | exact stripOK_nil | refine stripOK_mb id ?_ | refine stripOK_p ?_ | refine stripOK_ref ?_ | refine stripOK_row ?_ | refine stripOK_ptr ?_ | refine stripOK_agg ?_ | refine stripOK_mb (by simp_all) ?_ | refine StripOK.plain _ _ rfl ?_))) (fun hb => (a_sub (by simp at hb; exact IntWalk.i64_in _ (by have := hbd hb.1; omega)))) (fun _ => trivial) ?_)
    (refine r_mb2 _ rfl rfl (by (repeat (first | exact stripOK_nil | refine stripOK_mb id ?_ | refine stripOK_p ?_ | refine stripOK_ref ?_ | refine stripOK_row ?_ | refine stripOK_ptr ?_ | refine stripOK_agg ?_ | refine stripOK_mb (by simp_all) ?_ | refine StripOK.plain _ _ rfl ?_))) (fun hb => a_geq) (fun _ => trivial) ?_)
    (refine r_pure (a_or (by first | exact id | (simp; done) | grind)) rfl rfl ?_)
    refine arun_nil ?_
    refine thn_n ?_
    refine awp_cond _ rfl (fun h => ?_) (fun h => ?_)
    · refine awp_seq ?_
      refine awp_text (by kernel_rfl) ?_
      (refine r_pure (b_build pl46 zr46 rfl rfl) rfl rfl ?_)
      (refine r_run (a_storeAll (Y := .agg _) sz46 rfl (by first | exact Nat.eq_of_beq_eq_true rfl | (simp only [AV.cells, List.length_map]; first | assumption | omega)) (Nat.eq_of_beq_eq_true rfl)) rfl rfl ⟨rfl, trivial⟩ ?_)
      (refine r_pure (a_assign (r := .p _)) rfl rfl ?_)
      (refine r_pure (a_assign (r := .p _)) rfl rfl ?_)
      refine arun_nil ?_
      refine awp_ret (thn_r ?_)
      refine ⟨(by first | exact .inl rfl | exact .inr rfl), _, (fun o => o), (.cellN _ _ _ _ _ _ _ _ _ rfl rfl Try.underlying46 rfl sz46 (by first | assumption | kernel_rfl) (.tmp _ _ _ _ rfl (.tmp _ _ _ _ rfl .nil))), ?_, rfl, ?_, rfl⟩
      · exact rfl
      · exact trivial
    · simp at h
      exfalso
      rcases h2 with h2 | h2 | h2
      · simp [h2] at h
      · omega
      · omega
  rw [if_neg h2] at hE
  have h2' : k.live = true ∧ k.born ≤ now ∧ now - k.born < 180 := by
    refine ⟨?_, by omega, by omega⟩
    cases hl : k.live
    · exact absurd (.inl hl) h2
    · rfl
  have hcond : ∀ h' : Prop, ((!k.live || decide (now < k.born)) || decide (180 ≤ now - k.born)) = true → h' := fun h' hh => by
    exfalso
    simp [h2'.1] at hh
    omega
  by_cases h3 : openE k.take c b ≠ 0
  · rw [if_pos h3] at hE
    obtain ⟨e1, e2⟩ := kRes_bad hE h3 (koK k c) N D
    rw [e1, e2]
    obtain ⟨e1, e2⟩ := bRes_bad (e' := openE k.take c b) rfl h3 N D
    rw [e1, e2] at hS
    clear hE e1 e2
    generalize openE k.take c b = e at *
    refine fn_intro Try.func34 rfl (Nat.le_of_ble_eq_true rfl) fun w0 A => ?_
    refine awp_seq ?_
    refine awp_text (by kernel_rfl) ?_
    (refine r_run (a_box (X := .agg _) 4 rfl) rfl rfl ⟨rfl, trivial⟩ ?_)
    (refine r_run (a_alloc 8 zr46 rfl) rfl rfl ⟨rfl, trivial⟩ ?_)
    (refine r_pure (a_assign (r := .p _)) rfl rfl ?_)
    (refine r_pure (a_assign (r := .p _)) rfl rfl ?_)
    refine arun_nil ?_
    refine awp_seq (awp_seq ?_)
    refine awp_text (by kernel_rfl) ?_
    (refine r_run (a_loadN Try.underlying46 rfl sz46 (by first | exact Nat.le_of_ble_eq_true rfl | omega | (simp only [AV.cells, List.length_map]; omega)) (by first | exact take_all (by first | assumption | exact Nat.eq_of_beq_eq_true rfl | (simp only [AV.cells, List.length_map]; first | assumption | omega)) | (simp only [List.take_succ_cons, List.take_zero, List.drop_succ_cons, List.drop_zero]; rfl) | rfl)) rfl rfl ⟨rfl, trivial⟩ ?_)
    (refine r_callV (fun n => 16 + 1000 * n) (hC) rfl rfl Try.func68 rfl rfl (by first | rfl | simp [AV.noSl, AV.noSlL, AObj.noSl, PV.isV, bs_noSl]) (by first | rfl | simp [AV.noSl, AV.noSlL, AObj.noSl, PV.isV, bs_noSl]) rfl rfl rfl (by first | exact trivial | exact ⟨rfl, trivial⟩ | exact ⟨rfl, rfl, trivial⟩) rfl rfl rfl ?_)
    (refine r_pure (a_assign (r := .p _)) rfl rfl ?_)
    refine arun_nil ?_
    refine awp_seq ?_
    refine awp_text (by kernel_rfl) ?_
    (refine r_pure (a_move (r := .p _)) rfl rfl ?_)
    (refine r_pure a_neqT rfl rfl ?_)
    refine arun_nil ?_
    refine thn_n ?_
    refine awp_cond _ rfl (fun h => ?_) (fun h => ?_)
    · cases h
    refine awp_skip (awp_seq (awp_seq ?_))
    refine awp_text (by kernel_rfl) ?_
    (refine r_pure (b_fieldAddr fi46_0 rfl) rfl rfl ?_)
    (refine r_run (a_load1 Try.underlying4 rfl (by first | rfl | assumption)) rfl rfl ⟨rfl, trivial⟩ ?_)
    (refine r_pure a_not rfl rfl ?_)
    (refine r_pure (a_move (r := .p _)) rfl rfl ?_)
    (refine r_mb2 _ rfl rfl (by (repeat (first | exact stripOK_nil | refine stripOK_mb id ?_ | refine stripOK_p ?_ | refine stripOK_ref ?_ | refine stripOK_row ?_ | refine stripOK_ptr ?_ | refine stripOK_agg ?_ | refine stripOK_mb (by simp_all) ?_ | refine StripOK.plain _ _ rfl ?_))) (fun hb => (a_move (r := .p _))) (fun _ => trivial) ?_)
    (refine r_mb2 _ rfl rfl (by (repeat (first | exact stripOK_nil | refine stripOK_mb id ?_ | refine stripOK_p ?_ | refine stripOK_ref ?_ | refine stripOK_row ?_ | refine stripOK_ptr ?_ | refine stripOK_agg ?_ | refine stripOK_mb (by simp_all) ?_ | refine StripOK.plain _ _ rfl ?_))) (fun hb => (b_fieldAddr fi46_5 rfl)) (fun _ => trivial) ?_)
    (refine r_mb2 _ rfl rfl (by (repeat (first | exact stripOK_nil | refine stripOK_mb id ?_ | refine stripOK_p ?_ | refine stripOK_ref ?_ | refine stripOK_row ?_ | refine stripOK_ptr ?_ | refine stripOK_agg ?_ | refine stripOK_mb (by simp_all) ?_ | refine StripOK.plain _ _ rfl ?_))) (fun hb => (a_load1 Try.underlying3 rfl (by first | rfl | assumption))) (fun _ => ⟨rfl, trivial⟩) ?_)
    (refine r_mb2 _ rfl rfl (by (repeat (first | exact stripOK_nil | refine stripOK_mb id ?_ | refine stripOK_p ?_ | refine stripOK_ref ?_ | refine stripOK_row ?_ | refine stripOK_ptr ?_ | refine stripOK_agg ?_ | refine stripOK_mb (by simp_all) ?_ | refine StripOK.plain _ _ rfl ?_))) (fun hb => a_lss) (fun _ => trivial) ?_)
    (refine r_pure (a_or (by first | exact id | (simp; done) | grind)) rfl rfl ?_)
    (refine r_pure (a_move (r := .p _)) rfl rfl ?_)
    (refine r_mb2 _ rfl rfl (by (repeat (first | exact stripOK_nil | refine stripOK_mb id ?_ | refine stripOK_p ?_ | refine stripOK_ref ?_ | refine stripOK_row ?_ | refine stripOK_ptr ?_ | refine stripOK_agg ?_ | refine stripOK_mb (by simp_all) ?_ | refine StripOK.plain _ _ rfl ?_))) (fun hb => (a_move (r := .p _))) (fun _ => trivial) ?_)
    (refine r_mb2 _ rfl rfl (by (repeat (first | exact stripOK_nil | refine stripOK_mb id ?_ | refine stripOK_p ?_ | refine stripOK_ref ?_ | refine stripOK_row ?_ | refine stripOK_ptr ?_ | refine stripOK_agg ?_ | refine stripOK_mb (by simp_all) ?_ | refine StripOK.plain _ _ rfl ?_))) (fun hb => (b_fieldAddr fi46_5 rfl)) (fun _ => trivial) ?_)
    (refine r_mb2 _ rfl rfl (by (repeat (first | exact stripOK_nil | refine stripOK_mb id ?_ | refine stripOK_p ?_ | refine stripOK_ref ?_ | refine stripOK_row ?_ | refine stripOK_ptr ?_ | refine stripOK_agg ?_ | refine stripOK_mb (by simp_all) ?_ | refine StripOK.plain _ _ rfl ?_))) (fun hb => (a_load1 Try.underlying3 rfl (by first | rfl | assumption))) (fun _ => ⟨rfl, trivial⟩) ?_)
    (refine r_mb2 _ rfl rfl (by (repeat (first | exact stripOK_nil | refine stripOK_mb id ?_ | refine stripOK_p ?_ | refine stripOK_ref ?_ | refine stripOK_row ?_ | refine stripOK_ptr ?_ | refine stripOK_agg ?_ | refine stripOK_mb (by simp_all) ?_ | refine StripOK.plain _ _ rfl ?_))) (fun hb => (a_sub (by simp at hb; exact IntWalk.i64_in _ (by have := hbd hb.1; omega)))) (fun _ => trivial) ?_)
    (refine r_mb2 _ rfl rfl (by (repeat (first | exact stripOK_nil | refine stripOK_mb id ?_ | refine stripOK_p ?_ | refine stripOK_ref ?_ | refine stripOK_row ?_ | refine stripOK_ptr ?_ | refine stripOK_agg ?_ | refine stripOK_mb (by simp_all) ?_ | refine StripOK.plain _ _ rfl ?_))) (fun hb => a_geq) (fun _ => trivial) ?_)
    (refine r_pure (a_or (by first | exact id | (simp; done) | grind)) rfl rfl ?_)
    refine arun_nil ?_
    refine thn_n ?_
    refine awp_cond _ rfl (fun h => ?_) (fun h => ?_)
    · exact hcond _ h
    refine awp_skip (awp_seq ?_)
    refine awp_text (by kernel_rfl) ?_
    (refine r_pure (b_fieldAddr fi46_2 rfl) rfl rfl ?_)
    (refine r_run (a_load1 Try.underlying9 rfl (by first | rfl | assumption)) rfl rfl ⟨rfl, trivial⟩ ?_)
    (refine r_pure (a_move (r := .p _)) rfl rfl ?_)
    (refine r_pure (a_move (r := .p _)) rfl rfl ?_)
    (refine r_callV (fun n => 43 + 1000 * n) (hS) rfl rfl Try.func76 rfl rfl (by first | rfl | simp [AV.noSl, AV.noSlL, AObj.noSl, PV.isV, bs_noSl]) (by first | rfl | simp [AV.noSl, AV.noSlL, AObj.noSl, PV.isV, bs_noSl]) rfl rfl rfl (by first | exact trivial | exact ⟨rfl, trivial⟩ | exact ⟨rfl, rfl, trivial⟩) rfl rfl rfl ?_)
    (refine r_pure (a_move (r := .tup _)) rfl rfl ?_)
    (refine r_pure (a_extract rfl) rfl rfl ?_)
    (refine r_pure (a_extract rfl) rfl rfl ?_)
    (refine r_pure (a_assign (r := .p _)) rfl rfl ?_)
    (refine r_pure (a_assign (r := .p _)) rfl rfl ?_)
    refine arun_nil ?_
    refine awp_seq (awp_seq ?_)
    refine awp_text (by kernel_rfl) ?_
    (refine r_pure (a_move (r := .p _)) rfl rfl ?_)
    (refine r_pure a_neq rfl rfl ?_)
    refine arun_nil ?_
    refine thn_n ?_
    refine awp_cond _ rfl (fun h => ?_) (fun h => ?_)
    · refine awp_seq ?_
      refine awp_text (by kernel_rfl) ?_
      (refine r_pure (b_build pl46 zr46 rfl rfl) rfl rfl ?_)
      (refine r_pure (a_move (r := .p _)) rfl rfl ?_)
      (refine r_run (a_storeAll (Y := .agg _) sz46 rfl (by first | exact Nat.eq_of_beq_eq_true rfl | (simp only [AV.cells, List.length_map]; first | assumption | omega)) (Nat.eq_of_beq_eq_true rfl)) rfl rfl ⟨rfl, trivial⟩ ?_)
      (refine r_pure (a_assign (r := .p _)) rfl rfl ?_)
      (refine r_pure (a_assign (r := .p _)) rfl rfl ?_)
      refine arun_nil ?_
      refine awp_ret (thn_r ?_)
      refine ⟨(by first | exact .inl rfl | exact .inr rfl), _, (fun o => o), (.cellN _ _ _ _ _ _ _ _ _ rfl rfl Try.underlying46 rfl sz46 (by first | assumption | kernel_rfl) (.tmp _ _ _ _ rfl (.tmp _ _ _ _ rfl .nil))), ?_, rfl, ?_, rfl⟩
      · exact rfl
      · exact trivial
    · exact absurd (by simpa using h) h3
  rw [if_neg h3] at hE
  replace h3 : openE k.take c b = 0 := Decidable.not_not.1 h3
  obtain ⟨e1, e2⟩ := bRes_good h3 N D
  rw [e1, e2] at hS
  by_cases h4 : takeE k.ss k.sl k.sb c ≠ 0
  · obtain ⟨e1, e2⟩ := kRes_bad hE h4 (koK k c) N D
    rw [e1, e2]
    clear hE e1 e2
    generalize takeE k.ss k.sl k.sb c = e at *
    refine fn_intro Try.func34 rfl (Nat.le_of_ble_eq_true rfl) fun w0 A => ?_
    refine awp_seq ?_
    refine awp_text (by kernel_rfl) ?_
    (refine r_run (a_box (X := .agg _) 4 rfl) rfl rfl ⟨rfl, trivial⟩ ?_)
    (refine r_run (a_alloc 8 zr46 rfl) rfl rfl ⟨rfl, trivial⟩ ?_)
    (refine r_pure (a_assign (r := .p _)) rfl rfl ?_)
    (refine r_pure (a_assign (r := .p _)) rfl rfl ?_)
    refine arun_nil ?_
    refine awp_seq (awp_seq ?_)
    refine awp_text (by kernel_rfl) ?_
    (refine r_run (a_loadN Try.underlying46 rfl sz46 (by first | exact Nat.le_of_ble_eq_true rfl | omega | (simp only [AV.cells, List.length_map]; omega)) (by first | exact take_all (by first | assumption | exact Nat.eq_of_beq_eq_true rfl | (simp only [AV.cells, List.length_map]; first | assumption | omega)) | (simp only [List.take_succ_cons, List.take_zero, List.drop_succ_cons, List.drop_zero]; rfl) | rfl)) rfl rfl ⟨rfl, trivial⟩ ?_)
    (refine r_callV (fun n => 16 + 1000 * n) (hC) rfl rfl Try.func68 rfl rfl (by first | rfl | simp [AV.noSl, AV.noSlL, AObj.noSl, PV.isV, bs_noSl]) (by first | rfl | simp [AV.noSl, AV.noSlL, AObj.noSl, PV.isV, bs_noSl]) rfl rfl rfl (by first | exact trivial | exact ⟨rfl, trivial⟩ | exact ⟨rfl, rfl, trivial⟩) rfl rfl rfl ?_)
    (refine r_pure (a_assign (r := .p _)) rfl rfl ?_)
    refine arun_nil ?_
    refine awp_seq ?_
    refine awp_text (by kernel_rfl) ?_
    (refine r_pure (a_move (r := .p _)) rfl rfl ?_)
    (refine r_pure a_neqT rfl rfl ?_)
    refine arun_nil ?_
    refine thn_n ?_
    refine awp_cond _ rfl (fun h => ?_) (fun h => ?_)
    · cases h
    refine awp_skip (awp_seq (awp_seq ?_))
    refine awp_text (by kernel_rfl) ?_
    (refine r_pure (b_fieldAddr fi46_0 rfl) rfl rfl ?_)
    (refine r_run (a_load1 Try.underlying4 rfl (by first | rfl | assumption)) rfl rfl ⟨rfl, trivial⟩ ?_)
    (refine r_pure a_not rfl rfl ?_)
    (refine r_pure (a_move (r := .p _)) rfl rfl ?_)
    (refine r_mb2 _ rfl rfl (by (repeat (first | exact stripOK_nil | refine stripOK_mb id ?_ | refine stripOK_p ?_ | refine stripOK_ref ?_ | refine stripOK_row ?_ | refine stripOK_ptr ?_ | refine stripOK_agg ?_ | refine stripOK_mb (by simp_all) ?_ | refine StripOK.plain _ _ rfl ?_))) (fun hb => (a_move (r := .p _))) (fun _ => trivial) ?_)
    (refine r_mb2 _ rfl rfl (by (repeat (first | exact stripOK_nil | refine stripOK_mb id ?_ | refine stripOK_p ?_ | refine stripOK_ref ?_ | refine stripOK_row ?_ | refine stripOK_ptr ?_ | refine stripOK_agg ?_ | refine stripOK_mb (by simp_all) ?_ | refine StripOK.plain _ _ rfl ?_))) (fun hb => (b_fieldAddr fi46_5 rfl)) (fun _ => trivial) ?_)
    (refine r_mb2 _ rfl rfl (by (repeat (first | exact stripOK_nil | refine stripOK_mb id ?_ | refine stripOK_p ?_ | refine stripOK_ref ?_ | refine stripOK_row ?_ | refine stripOK_ptr ?_ | refine stripOK_agg ?_ | refine stripOK_mb (by simp_all) ?_ | refine StripOK.plain _ _ rfl ?_))) (fun hb => (a_load1 Try.underlying3 rfl (by first | rfl | assumption))) (fun _ => ⟨rfl, trivial⟩) ?_)
    (refine r_mb2 _ rfl rfl (by (repeat (first | exact stripOK_nil | refine stripOK_mb id ?_ | refine stripOK_p ?_ | refine stripOK_ref ?_ | refine stripOK_row ?_ | refine stripOK_ptr ?_ | refine stripOK_agg ?_ | refine stripOK_mb (by simp_all) ?_ | refine StripOK.plain _ _ rfl ?_))) (fun hb => a_lss) (fun _ => trivial) ?_)
    (refine r_pure (a_or (by first | exact id | (simp; done) | grind)) rfl rfl ?_)
    (refine r_pure (a_move (r := .p _)) rfl rfl ?_)
    (refine r_mb2 _ rfl rfl (by (repeat (first | exact stripOK_nil | refine stripOK_mb id ?_ | refine stripOK_p ?_ | refine stripOK_ref ?_ | refine stripOK_row ?_ | refine stripOK_ptr ?_ | refine stripOK_agg ?_ | refine stripOK_mb (by simp_all) ?_ | refine StripOK.plain _ _ rfl ?_))) (fun hb => (a_move (r := .p _))) (fun _ => trivial) ?_)
    (refine r_mb2 _ rfl rfl (by (repeat (first | exact stripOK_nil | refine stripOK_mb id ?_ | refine stripOK_p ?_ | refine stripOK_ref ?_ | refine stripOK_row ?_ | refine stripOK_ptr ?_ | refine stripOK_agg ?_ | refine stripOK_mb (by simp_all) ?_ | refine StripOK.plain _ _ rfl ?_))) (fun hb => (b_fieldAddr fi46_5 rfl)) (fun _ => trivial) ?_)
    (refine r_mb2 _ rfl rfl (by (repeat (first | exact stripOK_nil | refine stripOK_mb id ?_ | refine stripOK_p ?_ | refine stripOK_ref ?_ | refine stripOK_row ?_ | refine stripOK_ptr ?_ | refine stripOK_agg ?_ | refine stripOK_mb (by simp_all) ?_ | refine StripOK.plain _ _ rfl ?_))) (fun hb => (a_load1 Try.underlying3 rfl (by first | rfl | assumption))) (fun _ => ⟨rfl, trivial⟩) ?_)
    (refine r_mb2 _ rfl rfl (by (repeat (first | exact stripOK_nil | refine stripOK_mb id ?_ | refine stripOK_p ?_ | refine stripOK_ref ?_ | refine stripOK_row ?_ | refine stripOK_ptr ?_ | refine stripOK_agg ?_ | refine stripOK_mb (by simp_all) ?_ | refine StripOK.plain _ _ rfl ?_))) (fun hb => (a_sub (by simp at hb; exact IntWalk.i64_in _ (by have := hbd hb.1; omega)))) (fun _ => trivial) ?_)
    (refine r_mb2 _ rfl rfl (by (repeat (first | exact stripOK_nil | refine stripOK_mb id ?_ | refine stripOK_p ?_ | refine stripOK_ref ?_ | refine stripOK_row ?_ | refine stripOK_ptr ?_ | refine stripOK_agg ?_ | refine stripOK_mb (by simp_all) ?_ | refine StripOK.plain _ _ rfl ?_))) (fun hb => a_geq) (fun _ => trivial) ?_)
    (refine r_pure (a_or (by first | exact id | (simp; done) | grind)) rfl rfl ?_)
    refine arun_nil ?_
    refine thn_n ?_
    refine awp_cond _ rfl (fun h => ?_) (fun h => ?_)
    · exact hcond _ h
    refine awp_skip (awp_seq ?_)
    refine awp_text (by kernel_rfl) ?_
    (refine r_pure (b_fieldAddr fi46_2 rfl) rfl rfl ?_)
    (refine r_run (a_load1 Try.underlying9 rfl (by first | rfl | assumption)) rfl rfl ⟨rfl, trivial⟩ ?_)
    (refine r_pure (a_move (r := .p _)) rfl rfl ?_)
    (refine r_pure (a_move (r := .p _)) rfl rfl ?_)
    (refine r_callV (fun n => 43 + 1000 * n) (hS) rfl rfl Try.func76 rfl rfl (by first | rfl | simp [AV.noSl, AV.noSlL, AObj.noSl, PV.isV, bs_noSl]) (by first | rfl | simp [AV.noSl, AV.noSlL, AObj.noSl, PV.isV, bs_noSl]) rfl rfl rfl (by first | exact trivial | exact ⟨rfl, trivial⟩ | exact ⟨rfl, rfl, trivial⟩) rfl rfl rfl ?_)
    (refine r_pure (a_move (r := .tup _)) rfl rfl ?_)
    (refine r_pure (a_extract rfl) rfl rfl ?_)
    (refine r_pure (a_extract rfl) rfl rfl ?_)
    (refine r_pure (a_assign (r := .row _)) rfl rfl ?_)
    (refine r_pure (a_assign (r := .p _)) rfl rfl ?_)
    refine arun_nil ?_
    refine awp_seq (awp_seq ?_)
    refine awp_text (by kernel_rfl) ?_
    (refine r_pure (a_move (r := .p _)) rfl rfl ?_)
    (refine r_pure a_neqT rfl rfl ?_)
    refine arun_nil ?_
    refine thn_n ?_
    refine awp_cond _ rfl (fun h => ?_) (fun h => ?_)
    · cases h
    refine awp_skip (awp_seq ?_)
    refine awp_text (by kernel_rfl) ?_
    (refine r_pure (b_fieldAddr fi46_7 rfl) rfl rfl ?_)
    (refine r_run (a_loadN Try.underlying44 rfl sz44 (by first | exact Nat.le_of_ble_eq_true rfl | omega | (simp only [AV.cells, List.length_map]; omega)) (by first | exact take_all (by first | assumption | exact Nat.eq_of_beq_eq_true rfl | (simp only [AV.cells, List.length_map]; first | assumption | omega)) | (simp only [List.take_succ_cons, List.take_zero, List.drop_succ_cons, List.drop_zero]; rfl) | rfl)) rfl rfl ⟨rfl, trivial⟩ ?_)
    (refine r_pure (a_move (r := .p _)) rfl rfl ?_)
    (refine r_callV (fun n => 54 + 1000 * n) (hT) rfl rfl Try.func77 rfl rfl (by first | rfl | simp [AV.noSl, AV.noSlL, AObj.noSl, PV.isV, bs_noSl]) (by first | rfl | simp [AV.noSl, AV.noSlL, AObj.noSl, PV.isV, bs_noSl]) rfl rfl rfl (by first | exact trivial | exact ⟨rfl, trivial⟩ | exact ⟨rfl, rfl, trivial⟩) rfl rfl rfl ?_)
    (refine r_pure (a_move (r := .tup _)) rfl rfl ?_)
    (refine r_pure (a_extract rfl) rfl rfl ?_)
    (refine r_pure (a_extract rfl) rfl rfl ?_)
    (refine r_run (a_alloc 14 zr44 rfl) rfl rfl ⟨rfl, trivial⟩ ?_)
    (refine r_run (a_storeAll (Y := .agg _) sz44 rfl (by first | exact Nat.eq_of_beq_eq_true rfl | (simp only [AV.cells, List.length_map]; first | assumption | omega)) (Nat.eq_of_beq_eq_true rfl)) rfl rfl ⟨rfl, trivial⟩ ?_)
    (refine r_pure (a_assign (r := .p _)) rfl rfl ?_)
    refine arun_nil ?_
    refine awp_seq (awp_seq ?_)
    refine awp_text (by kernel_rfl) ?_
    (refine r_pure (a_move (r := .p _)) rfl rfl ?_)
    (refine r_pure a_neq rfl rfl ?_)
    refine arun_nil ?_
    refine thn_n ?_
    refine awp_cond _ rfl (fun h => ?_) (fun h => ?_)
    · refine awp_seq ?_
      refine awp_text (by kernel_rfl) ?_
      (refine r_pure (b_build pl46 zr46 rfl rfl) rfl rfl ?_)
      (refine r_pure (a_move (r := .p _)) rfl rfl ?_)
      (refine r_run (a_storeAll (Y := .agg _) sz46 rfl (by first | exact Nat.eq_of_beq_eq_true rfl | (simp only [AV.cells, List.length_map]; first | assumption | omega)) (Nat.eq_of_beq_eq_true rfl)) rfl rfl ⟨rfl, trivial⟩ ?_)
      (refine r_pure (a_assign (r := .p _)) rfl rfl ?_)
      (refine r_pure (a_assign (r := .p _)) rfl rfl ?_)
      refine arun_nil ?_
      refine awp_ret (thn_r ?_)
      refine ⟨(by first | exact .inl rfl | exact .inr rfl), _, (fun o => o), (.cellN _ _ _ _ _ _ _ _ _ rfl rfl Try.underlying46 rfl sz46 (by first | assumption | kernel_rfl) (.tmp _ _ _ _ rfl (.tmp _ _ _ _ rfl .nil))), ?_, rfl, ?_, rfl⟩
      · exact rfl
      · exact trivial
    · exact absurd (by simpa using h) h4
  replace h4 : takeE k.ss k.sl k.sb c = 0 := Decidable.not_not.1 h4
  obtain ⟨e1, e2⟩ := kRes_good (hE.trans h4) (koK k c) N D
  rw [e1, e2, hck]
  rw [h4] at hT
  clear hE e1 e2 hck
  refine fn_intro Try.func34 rfl (Nat.le_of_ble_eq_true rfl) fun w0 A => ?_
  refine awp_seq ?_
  refine awp_text (by kernel_rfl) ?_
  (refine r_run (a_box (X := .agg _) 4 rfl) rfl rfl ⟨rfl, trivial⟩ ?_)
  (refine r_run (a_alloc 8 zr46 rfl) rfl rfl ⟨rfl, trivial⟩ ?_)
  (refine r_pure (a_assign (r := .p _)) rfl rfl ?_)
  (refine r_pure (a_assign (r := .p _)) rfl rfl ?_)
  refine arun_nil ?_
  refine awp_seq (awp_seq ?_)
  refine awp_text (by kernel_rfl) ?_
  (refine r_run (a_loadN Try.underlying46 rfl sz46 (by first | exact Nat.le_of_ble_eq_true rfl | omega | (simp only [AV.cells, List.length_map]; omega)) (by first | exact take_all (by first | assumption | exact Nat.eq_of_beq_eq_true rfl | (simp only [AV.cells, List.length_map]; first | assumption | omega)) | (simp only [List.take_succ_cons, List.take_zero, List.drop_succ_cons, List.drop_zero]; rfl) | rfl)) rfl rfl ⟨rfl, trivial⟩ ?_)
  (refine r_callV (fun n => 16 + 1000 * n) (hC) rfl rfl Try.func68 rfl rfl (by first | rfl | simp [AV.noSl, AV.noSlL, AObj.noSl, PV.isV, bs_noSl]) (by first | rfl | simp [AV.noSl, AV.noSlL, AObj.noSl, PV.isV, bs_noSl]) rfl rfl rfl (by first | exact trivial | exact ⟨rfl, trivial⟩ | exact ⟨rfl, rfl, trivial⟩) rfl rfl rfl ?_)
  (refine r_pure (a_assign (r := .p _)) rfl rfl ?_)
  refine arun_nil ?_
  refine awp_seq ?_
  refine awp_text (by kernel_rfl) ?_
  (refine r_pure (a_move (r := .p _)) rfl rfl ?_)
  (refine r_pure a_neqT rfl rfl ?_)
  refine arun_nil ?_
  refine thn_n ?_
  refine awp_cond _ rfl (fun h => ?_) (fun h => ?_)
  · cases h
  refine awp_skip (awp_seq (awp_seq ?_))
  refine awp_text (by kernel_rfl) ?_
  (refine r_pure (b_fieldAddr fi46_0 rfl) rfl rfl ?_)
  (refine r_run (a_load1 Try.underlying4 rfl (by first | rfl | assumption)) rfl rfl ⟨rfl, trivial⟩ ?_)
  (refine r_pure a_not rfl rfl ?_)
  (refine r_pure (a_move (r := .p _)) rfl rfl ?_)
  (refine r_mb2 _ rfl rfl (by (repeat (first | exact stripOK_nil | refine stripOK_mb id ?_ | refine stripOK_p ?_ | refine stripOK_ref ?_ | refine stripOK_row ?_ | refine stripOK_ptr ?_ | refine stripOK_agg ?_ | refine stripOK_mb (by simp_all) ?_ | refine StripOK.plain _ _ rfl ?_))) (fun hb => (a_move (r := .p _))) (fun _ => trivial) ?_)
  (refine r_mb2 _ rfl rfl (by (repeat (first | exact stripOK_nil | refine stripOK_mb id ?_ | refine stripOK_p ?_ | refine stripOK_ref ?_ | refine stripOK_row ?_ | refine stripOK_ptr ?_ | refine stripOK_agg ?_ | refine stripOK_mb (by simp_all) ?_ | refine StripOK.plain _ _ rfl ?_))) (fun hb => (b_fieldAddr fi46_5 rfl)) (fun _ => trivial) ?_)
  (refine r_mb2 _ rfl rfl (by (repeat (first | exact stripOK_nil | refine stripOK_mb id ?_ | refine stripOK_p ?_ | refine stripOK_ref ?_ | refine stripOK_row ?_ | refine stripOK_ptr ?_ | refine stripOK_agg ?_ | refine stripOK_mb (by simp_all) ?_ | refine StripOK.plain _ _ rfl ?_))) (fun hb => (a_load1 Try.underlying3 rfl (by first | rfl | assumption))) (fun _ => ⟨rfl, trivial⟩) ?_)
  (refine r_mb2 _ rfl rfl (by (repeat (first | exact stripOK_nil | refine stripOK_mb id ?_ | refine stripOK_p ?_ | refine stripOK_ref ?_ | refine stripOK_row ?_ | refine stripOK_ptr ?_ | refine stripOK_agg ?_ | refine stripOK_mb (by simp_all) ?_ | refine StripOK.plain _ _ rfl ?_))) (fun hb => a_lss) (fun _ => trivial) ?_)
  (refine r_pure (a_or (by first | exact id | (simp; done) | grind)) rfl rfl ?_)
  (refine r_pure (a_move (r := .p _)) rfl rfl ?_)
  (refine r_mb2 _ rfl rfl (by (repeat (first | exact stripOK_nil | refine stripOK_mb id ?_ | refine stripOK_p ?_ | refine stripOK_ref ?_ | refine stripOK_row ?_ | refine stripOK_ptr ?_ | refine stripOK_agg ?_ | refine stripOK_mb (by simp_all) ?_ | refine StripOK.plain _ _ rfl ?_))) (fun hb => (a_move (r := .p _))) (fun _ => trivial) ?_)
  (refine r_mb2 _ rfl rfl (by (repeat (first | exact stripOK_nil | refine stripOK_mb id ?_ | refine stripOK_p ?_ | refine stripOK_ref ?_ | refine stripOK_row ?_ | refine stripOK_ptr ?_ | refine stripOK_agg ?_ | refine stripOK_mb (by simp_all) ?_ | refine StripOK.plain _ _ rfl ?_))) (fun hb => (b_fieldAddr fi46_5 rfl)) (fun _ => trivial) ?_)
  (refine r_mb2 _ rfl rfl (by (repeat (first | exact stripOK_nil | refine stripOK_mb id ?_ | refine stripOK_p ?_ | refine stripOK_ref ?_ | refine stripOK_row ?_ | refine stripOK_ptr ?_ | refine stripOK_agg ?_ | refine stripOK_mb (by simp_all) ?_ | refine StripOK.plain _ _ rfl ?_))) (fun hb => (a_load1 Try.underlying3 rfl (by first | rfl | assumption))) (fun _ => ⟨rfl, trivial⟩) ?_)
  (refine r_mb2 _ rfl rfl (by (repeat (first | exact stripOK_nil | refine stripOK_mb id ?_ | refine stripOK_p ?_ | refine stripOK_ref ?_ | refine stripOK_row ?_ | refine stripOK_ptr ?_ | refine stripOK_agg ?_ | refine stripOK_mb (by simp_all) ?_ | refine StripOK.plain _ _ rfl ?_))) (fun hb => (a_sub (by simp at hb; exact IntWalk.i64_in _ (by have := hbd hb.1; omega)))) (fun _ => trivial) ?_)
  (refine r_mb2 _ rfl rfl (by (repeat (first | exact stripOK_nil | refine stripOK_mb id ?_ | refine stripOK_p ?_ | refine stripOK_ref ?_ | refine stripOK_row ?_ | refine stripOK_ptr ?_ | refine stripOK_agg ?_ | refine stripOK_mb (by simp_all) ?_ | refine StripOK.plain _ _ rfl ?_))) (fun hb => a_geq) (fun _ => trivial) ?_)
  (refine r_pure (a_or (by first | exact id | (simp; done) | grind)) rfl rfl ?_)
  refine arun_nil ?_
  refine thn_n ?_
  refine awp_cond _ rfl (fun h => ?_) (fun h => ?_)
  · exact hcond _ h
  refine awp_skip (awp_seq ?_)
  refine awp_text (by kernel_rfl) ?_
  (refine r_pure (b_fieldAddr fi46_2 rfl) rfl rfl ?_)
  (refine r_run (a_load1 Try.underlying9 rfl (by first | rfl | assumption)) rfl rfl ⟨rfl, trivial⟩ ?_)
  (refine r_pure (a_move (r := .p _)) rfl rfl ?_)
  (refine r_pure (a_move (r := .p _)) rfl rfl ?_)
  (refine r_callV (fun n => 43 + 1000 * n) (hS) rfl rfl Try.func76 rfl rfl (by first | rfl | simp [AV.noSl, AV.noSlL, AObj.noSl, PV.isV, bs_noSl]) (by first | rfl | simp [AV.noSl, AV.noSlL, AObj.noSl, PV.isV, bs_noSl]) rfl rfl rfl (by first | exact trivial | exact ⟨rfl, trivial⟩ | exact ⟨rfl, rfl, trivial⟩) rfl rfl rfl ?_)
  (refine r_pure (a_move (r := .tup _)) rfl rfl ?_)
  (refine r_pure (a_extract rfl) rfl rfl ?_)
  (refine r_pure (a_extract rfl) rfl rfl ?_)
  (refine r_pure (a_assign (r := .row _)) rfl rfl ?_)
  (refine r_pure (a_assign (r := .p _)) rfl rfl ?_)
  refine arun_nil ?_
  refine awp_seq (awp_seq ?_)
  refine awp_text (by kernel_rfl) ?_
  (refine r_pure (a_move (r := .p _)) rfl rfl ?_)
  (refine r_pure a_neqT rfl rfl ?_)
  refine arun_nil ?_
  refine thn_n ?_
  refine awp_cond _ rfl (fun h => ?_) (fun h => ?_)
  · cases h
  refine awp_skip (awp_seq ?_)
  refine awp_text (by kernel_rfl) ?_
  (refine r_pure (b_fieldAddr fi46_7 rfl) rfl rfl ?_)
  (refine r_run (a_loadN Try.underlying44 rfl sz44 (by first | exact Nat.le_of_ble_eq_true rfl | omega | (simp only [AV.cells, List.length_map]; omega)) (by first | exact take_all (by first | assumption | exact Nat.eq_of_beq_eq_true rfl | (simp only [AV.cells, List.length_map]; first | assumption | omega)) | (simp only [List.take_succ_cons, List.take_zero, List.drop_succ_cons, List.drop_zero]; rfl) | rfl)) rfl rfl ⟨rfl, trivial⟩ ?_)
  (refine r_pure (a_move (r := .p _)) rfl rfl ?_)
  (refine r_callV (fun n => 54 + 1000 * n) (hT) rfl rfl Try.func77 rfl rfl (by first | rfl | simp [AV.noSl, AV.noSlL, AObj.noSl, PV.isV, bs_noSl]) (by first | rfl | simp [AV.noSl, AV.noSlL, AObj.noSl, PV.isV, bs_noSl]) rfl rfl rfl (by first | exact trivial | exact ⟨rfl, trivial⟩ | exact ⟨rfl, rfl, trivial⟩) rfl rfl rfl ?_)
  (refine r_pure (a_move (r := .tup _)) rfl rfl ?_)
  (refine r_pure (a_extract rfl) rfl rfl ?_)
  (refine r_pure (a_extract rfl) rfl rfl ?_)
  (refine r_run (a_alloc 14 zr44 rfl) rfl rfl ⟨rfl, trivial⟩ ?_)
  (refine r_run (a_storeAll (Y := .agg _) sz44 rfl (by first | exact Nat.eq_of_beq_eq_true rfl | (simp only [AV.cells, List.length_map]; first | assumption | omega)) (Nat.eq_of_beq_eq_true rfl)) rfl rfl ⟨rfl, trivial⟩ ?_)
  (refine r_pure (a_assign (r := .p _)) rfl rfl ?_)
  refine arun_nil ?_
  refine awp_seq (awp_seq ?_)
  refine awp_text (by kernel_rfl) ?_
  (refine r_pure (a_move (r := .p _)) rfl rfl ?_)
  (refine r_pure a_neqT rfl rfl ?_)
  refine arun_nil ?_
  refine thn_n ?_
  refine awp_cond _ rfl (fun h => ?_) (fun h => ?_)
  · cases h
  refine awp_skip (awp_seq ?_)
  refine awp_text (by kernel_rfl) ?_
  (refine r_run (a_loadN Try.underlying44 rfl sz44 (by first | exact Nat.le_of_ble_eq_true rfl | omega | (simp only [AV.cells, List.length_map]; omega)) (by first | exact take_all (by first | assumption | exact Nat.eq_of_beq_eq_true rfl | (simp only [AV.cells, List.length_map]; first | assumption | omega)) | (simp only [List.take_succ_cons, List.take_zero, List.drop_succ_cons, List.drop_zero]; rfl) | rfl)) rfl rfl ⟨rfl, trivial⟩ ?_)
  (refine r_pure (b_fieldAddr fi46_7 rfl) rfl rfl ?_)
  (refine r_run (a_store (Y := .agg _) sz44 rfl (by first | exact Nat.eq_of_beq_eq_true rfl | (simp only [AV.cells, List.length_map]; first | assumption | omega)) (by first | exact Nat.le_of_ble_eq_true rfl | omega | (simp only [AV.cells, List.length_map]; omega)) (by first | (simp only [setR, AV.cells, List.take_succ_cons, List.take_zero, List.drop_succ_cons, List.drop_zero, List.drop_nil, List.take_nil, List.nil_append, List.cons_append, List.append_nil, List.length_cons, List.length_nil, Nat.reduceAdd, Nat.zero_add, Nat.add_zero]; rfl) | rfl)) rfl rfl ⟨rfl, trivial⟩ ?_)
  refine arun_nil ?_
  refine awp_seq ?_
  refine awp_text (by kernel_rfl) ?_
  (refine r_run (a_loadN Try.underlying46 rfl sz46 (by first | exact Nat.le_of_ble_eq_true rfl | omega | (simp only [AV.cells, List.length_map]; omega)) (by first | exact take_all (by first | assumption | exact Nat.eq_of_beq_eq_true rfl | (simp only [AV.cells, List.length_map]; first | assumption | omega)) | (simp only [List.take_succ_cons, List.take_zero, List.drop_succ_cons, List.drop_zero]; rfl) | rfl)) rfl rfl ⟨rfl, trivial⟩ ?_)
  (refine r_pure (a_move (r := .row _)) rfl rfl ?_)
  (refine r_run (a_storeAll (Y := .agg _) sz46 rfl (by first | exact Nat.eq_of_beq_eq_true rfl | (simp only [AV.cells, List.length_map]; first | assumption | omega)) (Nat.eq_of_beq_eq_true rfl)) rfl rfl ⟨rfl, trivial⟩ ?_)
  (refine r_pure (a_assign (r := .row _)) rfl rfl ?_)
  (refine r_pure (a_assign (r := .p _)) rfl rfl ?_)
  refine arun_nil ?_
  refine awp_ret ?_
  refine ⟨(by first | exact .inl rfl | exact .inr rfl), _, (fun _ => 43), (.cellN _ _ _ _ _ _ _ _ _ rfl rfl Try.underlying46 rfl sz46 (by first | assumption | kernel_rfl) (.tmp _ _ _ _ rfl (.tmp _ _ _ _ rfl .nil))), ?_, rfl, ?_, rfl⟩
  · exact rfl
  · exact ⟨⟨rfl, rfl⟩, trivial⟩

set_option maxHeartbeats 4000000 in
theorem refKOpen_s (k : KY) (ok : k.OK) (now : Int) (n0 : -9223372036854775808 ≤ now) (n1 : now ≤ 9223372036854775807) (c : Int) (c0 : -9223372036854775808 ≤ c) (c1 : c ≤ 9223372036854775807) (n : Nat) (b : List Int) (hb : b.length = n) (hB : isB b) (hn : n ≤ 9223372036854775807) :
    Fn Try.prog 35 [.agg k.cells, .p (.v (.int .i64 now)), .p (.v (.int .i64 c)), .p (.sl n 1 (bs b))] (kRes (koE k now c b) (koK k c)) (bNew (koE k now c b) (opN b) (openD k.take c b)) := by
  have hC := refKFault_s k ok
  have hbd := @kE_bounds k
  have hS := refOpen_s k.take c n b hb hB hn
  have hT := refWinTake_s k.ss k.sl k.sb c ok.sb0 ok.sb1 ok.sl0 ok.sl1 c0 (by omega)
  have hE : koE k now c b = if kE k ≠ 0 then kE k else if k.live = false ∨ now < k.born ∨ 180 ≤ now - k.born then 13 else if openE k.take c b ≠ 0 then openE k.take c b else takeE k.ss k.sl k.sb c := rfl
  have hck : (koK k c).cells = [.p (.v (.bool k.live)), .p (.v (.string k.send)), .p (.v (.string k.take)), .p (.v (.int .i64 k.mine)), .p (.v (.int .i64 k.theirs)), .p (.v (.int .i64 k.born)), .p (.v (.int .i64 k.counter)), .p (.v (.bool (takeS k.ss k.sl k.sb c))), .p (.v (.int .i64 (takeL k.ss k.sl k.sb c))), .p (.v (.int .u64 (takeB k.ss k.sl k.sb c))), .p (.v (.bool k.first))] := rfl
  generalize openD k.take c b = D at *
  generalize opN b = N at *
  generalize takeS k.ss k.sl k.sb c = ts at *
  generalize takeL k.ss k.sl k.sb c = tl at *
  generalize takeB k.ss k.sl k.sb c = tb at *
  by_cases h1 : kE k ≠ 0
  · rw [if_pos h1] at hE
    obtain ⟨e1, e2⟩ := kRes_bad hE h1 (koK k c) N D
    rw [e1, e2]
    clear hbd
    generalize kE k = e at *
    refine fn_intro Try.func35 rfl (Nat.le_of_ble_eq_true rfl) fun w0 A => ?_
    refine awp_seq ?_
    refine awp_text (by kernel_rfl) ?_
    (refine r_run (a_box (X := .agg _) 4 rfl) rfl rfl ⟨rfl, trivial⟩ ?_)
    (refine r_run (a_alloc 8 zr46 rfl) rfl rfl ⟨rfl, trivial⟩ ?_)
    (refine r_pure (a_assign (r := .p _)) rfl rfl ?_)
    (refine r_pure (a_assign (r := .p _)) rfl rfl ?_)
    refine arun_nil ?_
    refine awp_seq (awp_seq ?_)
    refine awp_text (by kernel_rfl) ?_
    (refine r_run (a_loadN Try.underlying46 rfl sz46 (by first | exact Nat.le_of_ble_eq_true rfl | omega | (simp only [AV.cells, List.length_map]; omega)) (by first | exact take_all (by first | assumption | exact Nat.eq_of_beq_eq_true rfl | (simp only [AV.cells, List.length_map]; first | assumption | omega)) | (simp only [List.take_succ_cons, List.take_zero, List.drop_succ_cons, List.drop_zero]; rfl) | rfl)) rfl rfl ⟨rfl, trivial⟩ ?_)
    (refine r_callV (fun n => 15 + 1000 * n) (hC) rfl rfl Try.func71 rfl rfl (by first | rfl | simp [AV.noSl, AV.noSlL, AObj.noSl, PV.isV, bs_noSl]) (by first | rfl | simp [AV.noSl, AV.noSlL, AObj.noSl, PV.isV, bs_noSl]) rfl rfl rfl (by first | exact trivial | exact ⟨rfl, trivial⟩ | exact ⟨rfl, rfl, trivial⟩) rfl rfl rfl ?_)
    (refine r_pure (a_assign (r := .p _)) rfl rfl ?_)
    refine arun_nil ?_
    refine awp_seq ?_
    refine awp_text (by kernel_rfl) ?_
    (refine r_pure (a_move (r := .p _)) rfl rfl ?_)
    (refine r_pure a_neq rfl rfl ?_)
    refine arun_nil ?_
    refine thn_n ?_
    refine awp_cond _ rfl (fun h => ?_) (fun h => ?_)
    · refine awp_seq ?_
      refine awp_text (by kernel_rfl) ?_
      (refine r_pure (b_build pl46 zr46 rfl rfl) rfl rfl ?_)
      (refine r_pure (a_move (r := .p _)) rfl rfl ?_)
      (refine r_run (a_storeAll (Y := .agg _) sz46 rfl (by first | exact Nat.eq_of_beq_eq_true rfl | (simp only [AV.cells, List.length_map]; first | assumption | omega)) (Nat.eq_of_beq_eq_true rfl)) rfl rfl ⟨rfl, trivial⟩ ?_)
      (refine r_pure (a_assign (r := .p _)) rfl rfl ?_)
      (refine r_pure (a_assign (r := .p _)) rfl rfl ?_)
      refine arun_nil ?_
      refine awp_ret (thn_r ?_)
      refine ⟨(by first | exact .inl rfl | exact .inr rfl), _, (fun o => o), (.cellN _ _ _ _ _ _ _ _ _ rfl rfl Try.underlying46 rfl sz46 (by first | assumption | kernel_rfl) (.tmp _ _ _ _ rfl (.tmp _ _ _ _ rfl .nil))), ?_, rfl, ?_, rfl⟩
      · exact rfl
      · exact trivial
    · exact absurd (by simpa using h) h1
  rw [if_neg h1] at hE
  replace h1 : kE k = 0 := Decidable.not_not.1 h1
  rw [h1] at hC
  replace hbd := hbd h1
  by_cases h2 : k.live = false ∨ now < k.born ∨ 180 ≤ now - k.born
  · rw [if_pos h2] at hE
    obtain ⟨e1, e2⟩ := kRes_bad hE (by decide) (koK k c) N D
    rw [e1, e2]
    refine fn_intro Try.func35 rfl (Nat.le_of_ble_eq_true rfl) fun w0 A => ?_
    refine awp_seq ?_
    refine awp_text (by kernel_rfl) ?_
    (refine r_run (a_box (X := .agg _) 4 rfl) rfl rfl ⟨rfl, trivial⟩ ?_)
    (refine r_run (a_alloc 8 zr46 rfl) rfl rfl ⟨rfl, trivial⟩ ?_)
    (refine r_pure (a_assign (r := .p _)) rfl rfl ?_)
    (refine r_pure (a_assign (r := .p _)) rfl rfl ?_)
    refine arun_nil ?_
    refine awp_seq (awp_seq ?_)
    refine awp_text (by kernel_rfl) ?_
    (refine r_run (a_loadN Try.underlying46 rfl sz46 (by first | exact Nat.le_of_ble_eq_true rfl | omega | (simp only [AV.cells, List.length_map]; omega)) (by first | exact take_all (by first | assumption | exact Nat.eq_of_beq_eq_true rfl | (simp only [AV.cells, List.length_map]; first | assumption | omega)) | (simp only [List.take_succ_cons, List.take_zero, List.drop_succ_cons, List.drop_zero]; rfl) | rfl)) rfl rfl ⟨rfl, trivial⟩ ?_)
    (refine r_callV (fun n => 15 + 1000 * n) (hC) rfl rfl Try.func71 rfl rfl (by first | rfl | simp [AV.noSl, AV.noSlL, AObj.noSl, PV.isV, bs_noSl]) (by first | rfl | simp [AV.noSl, AV.noSlL, AObj.noSl, PV.isV, bs_noSl]) rfl rfl rfl (by first | exact trivial | exact ⟨rfl, trivial⟩ | exact ⟨rfl, rfl, trivial⟩) rfl rfl rfl ?_)
    (refine r_pure (a_assign (r := .p _)) rfl rfl ?_)
    refine arun_nil ?_
    refine awp_seq ?_
    refine awp_text (by kernel_rfl) ?_
    (refine r_pure (a_move (r := .p _)) rfl rfl ?_)
    (refine r_pure a_neqT rfl rfl ?_)
    refine arun_nil ?_
    refine thn_n ?_
    refine awp_cond _ rfl (fun h => ?_) (fun h => ?_)
    · cases h
    refine awp_skip (awp_seq (awp_seq ?_))
    refine awp_text (by kernel_rfl) ?_
    (refine r_pure (b_fieldAddr fi46_0 rfl) rfl rfl ?_)
    (refine r_run (a_load1 Try.underlying4 rfl (by first | rfl | assumption)) rfl rfl ⟨rfl, trivial⟩ ?_)
    (refine r_pure a_not rfl rfl ?_)
    (refine r_pure (a_move (r := .p _)) rfl rfl ?_)
    (refine r_mb2 _ rfl rfl (by (repeat (first | exact stripOK_nil | refine stripOK_mb id ?_ | refine stripOK_p ?_ | refine stripOK_ref ?_ | refine stripOK_row ?_ | refine stripOK_ptr ?_ | refine stripOK_agg ?_ | refine stripOK_mb (by simp_all) ?_ | refine StripOK.plain _ _ rfl ?_))) (fun hb => (a_move (r := .p _))) (fun _ => trivial) ?_)
    (refine r_mb2 _ rfl rfl (by (repeat (first | exact stripOK_nil | refine stripOK_mb id ?_ | refine stripOK_p ?_ | refine stripOK_ref ?_ | refine stripOK_row ?_ | refine stripOK_ptr ?_ | refine stripOK_agg ?_ | refine stripOK_mb (by simp_all) ?_ | refine StripOK.plain _ _ rfl ?_))) (fun hb => (b_fieldAddr fi46_5 rfl)) (fun _ => trivial) ?_)
    (refine r_mb2 _ rfl rfl (by (repeat (first | exact stripOK_nil | refine stripOK_mb id ?_ | refine stripOK_p ?_ | refine stripOK_ref ?_ | refine stripOK_row ?_ | refine stripOK_ptr ?_ | refine stripOK_agg ?_ | refine stripOK_mb (by simp_all) ?_ | refine StripOK.plain _ _ rfl ?_))) (fun hb => (a_load1 Try.underlying3 rfl (by first | rfl | assumption))) (fun _ => ⟨rfl, trivial⟩) ?_)
    (refine r_mb2 _ rfl rfl (by (repeat (first | exact stripOK_nil | refine stripOK_mb id ?_ | refine stripOK_p ?_ | refine stripOK_ref ?_ | refine stripOK_row ?_ | refine stripOK_ptr ?_ | refine stripOK_agg ?_ | refine stripOK_mb (by simp_all) ?_ | refine StripOK.plain _ _ rfl ?_))) (fun hb => a_lss) (fun _ => trivial) ?_)
    (refine r_pure (a_or (by first | exact id | (simp; done) | grind)) rfl rfl ?_)
    (refine r_pure (a_move (r := .p _)) rfl rfl ?_)
    (refine r_mb2 _ rfl rfl (by (repeat (first | exact stripOK_nil | refine stripOK_mb id ?_ | refine stripOK_p ?_ | refine stripOK_ref ?_ | refine stripOK_row ?_ | refine stripOK_ptr ?_ | refine stripOK_agg ?_ | refine stripOK_mb (by simp_all) ?_ | refine StripOK.plain _ _ rfl ?_))) (fun hb => (a_move (r := .p _))) (fun _ => trivial) ?_)
    (refine r_mb2 _ rfl rfl (by (repeat (first | exact stripOK_nil | refine stripOK_mb id ?_ | refine stripOK_p ?_ | refine stripOK_ref ?_ | refine stripOK_row ?_ | refine stripOK_ptr ?_ | refine stripOK_agg ?_ | refine stripOK_mb (by simp_all) ?_ | refine StripOK.plain _ _ rfl ?_))) (fun hb => (b_fieldAddr fi46_5 rfl)) (fun _ => trivial) ?_)
    (refine r_mb2 _ rfl rfl (by (repeat (first | exact stripOK_nil | refine stripOK_mb id ?_ | refine stripOK_p ?_ | refine stripOK_ref ?_ | refine stripOK_row ?_ | refine stripOK_ptr ?_ | refine stripOK_agg ?_ | refine stripOK_mb (by simp_all) ?_ | refine StripOK.plain _ _ rfl ?_))) (fun hb => (a_load1 Try.underlying3 rfl (by first | rfl | assumption))) (fun _ => ⟨rfl, trivial⟩) ?_)
    (refine r_mb2 _ rfl rfl (by (repeat (first | exact stripOK_nil | refine stripOK_mb id ?_ | refine stripOK_p ?_ | refine stripOK_ref ?_ | refine stripOK_row ?_ | refine stripOK_ptr ?_ | refine stripOK_agg ?_ | refine stripOK_mb (by simp_all) ?_ | refine StripOK.plain _ _ rfl ?_))) (fun hb => (a_add (by simp at hb; exact IntWalk.i64_in _ (by have := hbd hb.1; omega)))) (fun _ => trivial) ?_)
    (refine r_mb2 _ rfl rfl (by (repeat (first | exact stripOK_nil | refine stripOK_mb id ?_ | refine stripOK_p ?_ | refine stripOK_ref ?_ | refine stripOK_row ?_ | refine stripOK_ptr ?_ | refine stripOK_agg ?_ | refine stripOK_mb (by simp_all) ?_ | refine StripOK.plain _ _ rfl ?_))) (fun hb => a_geq) (fun _ => trivial) ?_)
    (refine r_pure (a_or (by first | exact id | (simp; done) | grind)) rfl rfl ?_)
    refine arun_nil ?_
    refine thn_n ?_
    refine awp_cond _ rfl (fun h => ?_) (fun h => ?_)
    · refine awp_seq ?_
      refine awp_text (by kernel_rfl) ?_
      (refine r_pure (b_build pl46 zr46 rfl rfl) rfl rfl ?_)
      (refine r_run (a_storeAll (Y := .agg _) sz46 rfl (by first | exact Nat.eq_of_beq_eq_true rfl | (simp only [AV.cells, List.length_map]; first | assumption | omega)) (Nat.eq_of_beq_eq_true rfl)) rfl rfl ⟨rfl, trivial⟩ ?_)
      (refine r_pure (a_assign (r := .p _)) rfl rfl ?_)
      (refine r_pure (a_assign (r := .p _)) rfl rfl ?_)
      refine arun_nil ?_
      refine awp_ret (thn_r ?_)
      refine ⟨(by first | exact .inl rfl | exact .inr rfl), _, (fun o => o), (.cellN _ _ _ _ _ _ _ _ _ rfl rfl Try.underlying46 rfl sz46 (by first | assumption | kernel_rfl) (.tmp _ _ _ _ rfl (.tmp _ _ _ _ rfl .nil))), ?_, rfl, ?_, rfl⟩
      · exact rfl
      · exact trivial
    · simp at h
      exfalso
      rcases h2 with h2 | h2 | h2
      · simp [h2] at h
      · omega
      · omega
  rw [if_neg h2] at hE
  have h2' : k.live = true ∧ k.born ≤ now ∧ now - k.born < 180 := by
    refine ⟨?_, by omega, by omega⟩
    cases hl : k.live
    · exact absurd (.inl hl) h2
    · rfl
  have hcond : ∀ h' : Prop, ((!k.live || decide (now < k.born)) || decide (k.born + 180 ≤ now)) = true → h' := fun h' hh => by
    exfalso
    simp [h2'.1] at hh
    omega
  by_cases h3 : openE k.take c b ≠ 0
  · rw [if_pos h3] at hE
    obtain ⟨e1, e2⟩ := kRes_bad hE h3 (koK k c) N D
    rw [e1, e2]
    obtain ⟨e1, e2⟩ := bRes_bad (e' := openE k.take c b) rfl h3 N D
    rw [e1, e2] at hS
    clear hE e1 e2
    generalize openE k.take c b = e at *
    refine fn_intro Try.func35 rfl (Nat.le_of_ble_eq_true rfl) fun w0 A => ?_
    refine awp_seq ?_
    refine awp_text (by kernel_rfl) ?_
    (refine r_run (a_box (X := .agg _) 4 rfl) rfl rfl ⟨rfl, trivial⟩ ?_)
    (refine r_run (a_alloc 8 zr46 rfl) rfl rfl ⟨rfl, trivial⟩ ?_)
    (refine r_pure (a_assign (r := .p _)) rfl rfl ?_)
    (refine r_pure (a_assign (r := .p _)) rfl rfl ?_)
    refine arun_nil ?_
    refine awp_seq (awp_seq ?_)
    refine awp_text (by kernel_rfl) ?_
    (refine r_run (a_loadN Try.underlying46 rfl sz46 (by first | exact Nat.le_of_ble_eq_true rfl | omega | (simp only [AV.cells, List.length_map]; omega)) (by first | exact take_all (by first | assumption | exact Nat.eq_of_beq_eq_true rfl | (simp only [AV.cells, List.length_map]; first | assumption | omega)) | (simp only [List.take_succ_cons, List.take_zero, List.drop_succ_cons, List.drop_zero]; rfl) | rfl)) rfl rfl ⟨rfl, trivial⟩ ?_)
    (refine r_callV (fun n => 15 + 1000 * n) (hC) rfl rfl Try.func71 rfl rfl (by first | rfl | simp [AV.noSl, AV.noSlL, AObj.noSl, PV.isV, bs_noSl]) (by first | rfl | simp [AV.noSl, AV.noSlL, AObj.noSl, PV.isV, bs_noSl]) rfl rfl rfl (by first | exact trivial | exact ⟨rfl, trivial⟩ | exact ⟨rfl, rfl, trivial⟩) rfl rfl rfl ?_)
    (refine r_pure (a_assign (r := .p _)) rfl rfl ?_)
    refine arun_nil ?_
    refine awp_seq ?_
    refine awp_text (by kernel_rfl) ?_
    (refine r_pure (a_move (r := .p _)) rfl rfl ?_)
    (refine r_pure a_neqT rfl rfl ?_)
    refine arun_nil ?_
    refine thn_n ?_
    refine awp_cond _ rfl (fun h => ?_) (fun h => ?_)
    · cases h
    refine awp_skip (awp_seq (awp_seq ?_))
    refine awp_text (by kernel_rfl) ?_
    (refine r_pure (b_fieldAddr fi46_0 rfl) rfl rfl ?_)
    (refine r_run (a_load1 Try.underlying4 rfl (by first | rfl | assumption)) rfl rfl ⟨rfl, trivial⟩ ?_)
    (refine r_pure a_not rfl rfl ?_)
    (refine r_pure (a_move (r := .p _)) rfl rfl ?_)
    (refine r_mb2 _ rfl rfl (by (repeat (first | exact stripOK_nil | refine stripOK_mb id ?_ | refine stripOK_p ?_ | refine stripOK_ref ?_ | refine stripOK_row ?_ | refine stripOK_ptr ?_ | refine stripOK_agg ?_ | refine stripOK_mb (by simp_all) ?_ | refine StripOK.plain _ _ rfl ?_))) (fun hb => (a_move (r := .p _))) (fun _ => trivial) ?_)
    (refine r_mb2 _ rfl rfl (by (repeat (first | exact stripOK_nil | refine stripOK_mb id ?_ | refine stripOK_p ?_ | refine stripOK_ref ?_ | refine stripOK_row ?_ | refine stripOK_ptr ?_ | refine stripOK_agg ?_ | refine stripOK_mb (by simp_all) ?_ | refine StripOK.plain _ _ rfl ?_))) (fun hb => (b_fieldAddr fi46_5 rfl)) (fun _ => trivial) ?_)
    (refine r_mb2 _ rfl rfl (by (repeat (first | exact stripOK_nil | refine stripOK_mb id ?_ | refine stripOK_p ?_ | refine stripOK_ref ?_ | refine stripOK_row ?_ | refine stripOK_ptr ?_ | refine stripOK_agg ?_ | refine stripOK_mb (by simp_all) ?_ | refine StripOK.plain _ _ rfl ?_))) (fun hb => (a_load1 Try.underlying3 rfl (by first | rfl | assumption))) (fun _ => ⟨rfl, trivial⟩) ?_)
    (refine r_mb2 _ rfl rfl (by (repeat (first | exact stripOK_nil | refine stripOK_mb id ?_ | refine stripOK_p ?_ | refine stripOK_ref ?_ | refine stripOK_row ?_ | refine stripOK_ptr ?_ | refine stripOK_agg ?_ | refine stripOK_mb (by simp_all) ?_ | refine StripOK.plain _ _ rfl ?_))) (fun hb => a_lss) (fun _ => trivial) ?_)
    (refine r_pure (a_or (by first | exact id | (simp; done) | grind)) rfl rfl ?_)
    (refine r_pure (a_move (r := .p _)) rfl rfl ?_)
    (refine r_mb2 _ rfl rfl (by (repeat (first | exact stripOK_nil | refine stripOK_mb id ?_ | refine stripOK_p ?_ | refine stripOK_ref ?_ | refine stripOK_row ?_ | refine stripOK_ptr ?_ | refine stripOK_agg ?_ | refine stripOK_mb (by simp_all) ?_ | refine StripOK.plain _ _ rfl ?_))) (fun hb => (a_move (r := .p _))) (fun _ => trivial) ?_)
    (refine r_mb2 _ rfl rfl (by (repeat (first | exact stripOK_nil | refine stripOK_mb id ?_ | refine stripOK_p ?_ | refine stripOK_ref ?_ | refine stripOK_row ?_ | refine stripOK_ptr ?_ | refine stripOK_agg ?_ | refine stripOK_mb (by simp_all) ?_ | refine StripOK.plain _ _ rfl ?_))) (fun hb => (b_fieldAddr fi46_5 rfl)) (fun _ => trivial) ?_)
    (refine r_mb2 _ rfl rfl (by (repeat (first | exact stripOK_nil | refine stripOK_mb id ?_ | refine stripOK_p ?_ | refine stripOK_ref ?_ | refine stripOK_row ?_ | refine stripOK_ptr ?_ | refine stripOK_agg ?_ | refine stripOK_mb (by simp_all) ?_ | refine StripOK.plain _ _ rfl ?_))) (fun hb => (a_load1 Try.underlying3 rfl (by first | rfl | assumption))) (fun _ => ⟨rfl, trivial⟩) ?_)
    (refine r_mb2 _ rfl rfl (by (repeat (first | exact stripOK_nil | refine stripOK_mb id ?_ | refine stripOK_p ?_ | refine stripOK_ref ?_ | refine stripOK_row ?_ | refine stripOK_ptr ?_ | refine stripOK_agg ?_ | refine stripOK_mb (by simp_all) ?_ | refine StripOK.plain _ _ rfl ?_))) (fun hb => (a_add (by simp at hb; exact IntWalk.i64_in _ (by have := hbd hb.1; omega)))) (fun _ => trivial) ?_)
    (refine r_mb2 _ rfl rfl (by (repeat (first | exact stripOK_nil | refine stripOK_mb id ?_ | refine stripOK_p ?_ | refine stripOK_ref ?_ | refine stripOK_row ?_ | refine stripOK_ptr ?_ | refine stripOK_agg ?_ | refine stripOK_mb (by simp_all) ?_ | refine StripOK.plain _ _ rfl ?_))) (fun hb => a_geq) (fun _ => trivial) ?_)
    (refine r_pure (a_or (by first | exact id | (simp; done) | grind)) rfl rfl ?_)
    refine arun_nil ?_
    refine thn_n ?_
    refine awp_cond _ rfl (fun h => ?_) (fun h => ?_)
    · exact hcond _ h
    refine awp_skip (awp_seq ?_)
    refine awp_text (by kernel_rfl) ?_
    (refine r_pure (b_fieldAddr fi46_2 rfl) rfl rfl ?_)
    (refine r_run (a_load1 Try.underlying9 rfl (by first | rfl | assumption)) rfl rfl ⟨rfl, trivial⟩ ?_)
    (refine r_pure (a_move (r := .p _)) rfl rfl ?_)
    (refine r_pure (a_move (r := .p _)) rfl rfl ?_)
    (refine r_callV (fun n => 42 + 1000 * n) (hS) rfl rfl Try.func78 rfl rfl (by first | rfl | simp [AV.noSl, AV.noSlL, AObj.noSl, PV.isV, bs_noSl]) (by first | rfl | simp [AV.noSl, AV.noSlL, AObj.noSl, PV.isV, bs_noSl]) rfl rfl rfl (by first | exact trivial | exact ⟨rfl, trivial⟩ | exact ⟨rfl, rfl, trivial⟩) rfl rfl rfl ?_)
    (refine r_pure (a_move (r := .tup _)) rfl rfl ?_)
    (refine r_pure (a_extract rfl) rfl rfl ?_)
    (refine r_pure (a_extract rfl) rfl rfl ?_)
    (refine r_pure (a_assign (r := .p _)) rfl rfl ?_)
    (refine r_pure (a_assign (r := .p _)) rfl rfl ?_)
    refine arun_nil ?_
    refine awp_seq (awp_seq ?_)
    refine awp_text (by kernel_rfl) ?_
    (refine r_pure (a_move (r := .p _)) rfl rfl ?_)
    (refine r_pure a_neq rfl rfl ?_)
    refine arun_nil ?_
    refine thn_n ?_
    refine awp_cond _ rfl (fun h => ?_) (fun h => ?_)
    · refine awp_seq ?_
      refine awp_text (by kernel_rfl) ?_
      (refine r_pure (b_build pl46 zr46 rfl rfl) rfl rfl ?_)
      (refine r_pure (a_move (r := .p _)) rfl rfl ?_)
      (refine r_run (a_storeAll (Y := .agg _) sz46 rfl (by first | exact Nat.eq_of_beq_eq_true rfl | (simp only [AV.cells, List.length_map]; first | assumption | omega)) (Nat.eq_of_beq_eq_true rfl)) rfl rfl ⟨rfl, trivial⟩ ?_)
      (refine r_pure (a_assign (r := .p _)) rfl rfl ?_)
      (refine r_pure (a_assign (r := .p _)) rfl rfl ?_)
      refine arun_nil ?_
      refine awp_ret (thn_r ?_)
      refine ⟨(by first | exact .inl rfl | exact .inr rfl), _, (fun o => o), (.cellN _ _ _ _ _ _ _ _ _ rfl rfl Try.underlying46 rfl sz46 (by first | assumption | kernel_rfl) (.tmp _ _ _ _ rfl (.tmp _ _ _ _ rfl .nil))), ?_, rfl, ?_, rfl⟩
      · exact rfl
      · exact trivial
    · exact absurd (by simpa using h) h3
  rw [if_neg h3] at hE
  replace h3 : openE k.take c b = 0 := Decidable.not_not.1 h3
  obtain ⟨e1, e2⟩ := bRes_good h3 N D
  rw [e1, e2] at hS
  by_cases h4 : takeE k.ss k.sl k.sb c ≠ 0
  · obtain ⟨e1, e2⟩ := kRes_bad hE h4 (koK k c) N D
    rw [e1, e2]
    clear hE e1 e2
    generalize takeE k.ss k.sl k.sb c = e at *
    refine fn_intro Try.func35 rfl (Nat.le_of_ble_eq_true rfl) fun w0 A => ?_
    refine awp_seq ?_
    refine awp_text (by kernel_rfl) ?_
    (refine r_run (a_box (X := .agg _) 4 rfl) rfl rfl ⟨rfl, trivial⟩ ?_)
    (refine r_run (a_alloc 8 zr46 rfl) rfl rfl ⟨rfl, trivial⟩ ?_)
    (refine r_pure (a_assign (r := .p _)) rfl rfl ?_)
    (refine r_pure (a_assign (r := .p _)) rfl rfl ?_)
    refine arun_nil ?_
    refine awp_seq (awp_seq ?_)
    refine awp_text (by kernel_rfl) ?_
    (refine r_run (a_loadN Try.underlying46 rfl sz46 (by first | exact Nat.le_of_ble_eq_true rfl | omega | (simp only [AV.cells, List.length_map]; omega)) (by first | exact take_all (by first | assumption | exact Nat.eq_of_beq_eq_true rfl | (simp only [AV.cells, List.length_map]; first | assumption | omega)) | (simp only [List.take_succ_cons, List.take_zero, List.drop_succ_cons, List.drop_zero]; rfl) | rfl)) rfl rfl ⟨rfl, trivial⟩ ?_)
    (refine r_callV (fun n => 15 + 1000 * n) (hC) rfl rfl Try.func71 rfl rfl (by first | rfl | simp [AV.noSl, AV.noSlL, AObj.noSl, PV.isV, bs_noSl]) (by first | rfl | simp [AV.noSl, AV.noSlL, AObj.noSl, PV.isV, bs_noSl]) rfl rfl rfl (by first | exact trivial | exact ⟨rfl, trivial⟩ | exact ⟨rfl, rfl, trivial⟩) rfl rfl rfl ?_)
    (refine r_pure (a_assign (r := .p _)) rfl rfl ?_)
    refine arun_nil ?_
    refine awp_seq ?_
    refine awp_text (by kernel_rfl) ?_
    (refine r_pure (a_move (r := .p _)) rfl rfl ?_)
    (refine r_pure a_neqT rfl rfl ?_)
    refine arun_nil ?_
    refine thn_n ?_
    refine awp_cond _ rfl (fun h => ?_) (fun h => ?_)
    · cases h
    refine awp_skip (awp_seq (awp_seq ?_))
    refine awp_text (by kernel_rfl) ?_
    (refine r_pure (b_fieldAddr fi46_0 rfl) rfl rfl ?_)
    (refine r_run (a_load1 Try.underlying4 rfl (by first | rfl | assumption)) rfl rfl ⟨rfl, trivial⟩ ?_)
    (refine r_pure a_not rfl rfl ?_)
    (refine r_pure (a_move (r := .p _)) rfl rfl ?_)
    (refine r_mb2 _ rfl rfl (by (repeat (first | exact stripOK_nil | refine stripOK_mb id ?_ | refine stripOK_p ?_ | refine stripOK_ref ?_ | refine stripOK_row ?_ | refine stripOK_ptr ?_ | refine stripOK_agg ?_ | refine stripOK_mb (by simp_all) ?_ | refine StripOK.plain _ _ rfl ?_))) (fun hb => (a_move (r := .p _))) (fun _ => trivial) ?_)
    (refine r_mb2 _ rfl rfl (by (repeat (first | exact stripOK_nil | refine stripOK_mb id ?_ | refine stripOK_p ?_ | refine stripOK_ref ?_ | refine stripOK_row ?_ | refine stripOK_ptr ?_ | refine stripOK_agg ?_ | refine stripOK_mb (by simp_all) ?_ | refine StripOK.plain _ _ rfl ?_))) (fun hb => (b_fieldAddr fi46_5 rfl)) (fun _ => trivial) ?_)
    (refine r_mb2 _ rfl rfl (by (repeat (first | exact stripOK_nil | refine stripOK_mb id ?_ | refine stripOK_p ?_ | refine stripOK_ref ?_ | refine stripOK_row ?_ | refine stripOK_ptr ?_ | refine stripOK_agg ?_ | refine stripOK_mb (by simp_all) ?_ | refine StripOK.plain _ _ rfl ?_))) (fun hb => (a_load1 Try.underlying3 rfl (by first | rfl | assumption))) (fun _ => ⟨rfl, trivial⟩) ?_)
    (refine r_mb2 _ rfl rfl (by (repeat (first | exact stripOK_nil | refine stripOK_mb id ?_ | refine stripOK_p ?_ | refine stripOK_ref ?_ | refine stripOK_row ?_ | refine stripOK_ptr ?_ | refine stripOK_agg ?_ | refine stripOK_mb (by simp_all) ?_ | refine StripOK.plain _ _ rfl ?_))) (fun hb => a_lss) (fun _ => trivial) ?_)
    (refine r_pure (a_or (by first | exact id | (simp; done) | grind)) rfl rfl ?_)
    (refine r_pure (a_move (r := .p _)) rfl rfl ?_)
    (refine r_mb2 _ rfl rfl (by (repeat (first | exact stripOK_nil | refine stripOK_mb id ?_ | refine stripOK_p ?_ | refine stripOK_ref ?_ | refine stripOK_row ?_ | refine stripOK_ptr ?_ | refine stripOK_agg ?_ | refine stripOK_mb (by simp_all) ?_ | refine StripOK.plain _ _ rfl ?_))) (fun hb => (a_move (r := .p _))) (fun _ => trivial) ?_)
    (refine r_mb2 _ rfl rfl (by (repeat (first | exact stripOK_nil | refine stripOK_mb id ?_ | refine stripOK_p ?_ | refine stripOK_ref ?_ | refine stripOK_row ?_ | refine stripOK_ptr ?_ | refine stripOK_agg ?_ | refine stripOK_mb (by simp_all) ?_ | refine StripOK.plain _ _ rfl ?_))) (fun hb => (b_fieldAddr fi46_5 rfl)) (fun _ => trivial) ?_)
    (refine r_mb2 _ rfl rfl (by (repeat (first | exact stripOK_nil | refine stripOK_mb id ?_ | refine stripOK_p ?_ | refine stripOK_ref ?_ | refine stripOK_row ?_ | refine stripOK_ptr ?_ | refine stripOK_agg ?_ | refine stripOK_mb (by simp_all) ?_ | refine StripOK.plain _ _ rfl ?_))) (fun hb => (a_load1 Try.underlying3 rfl (by first | rfl | assumption))) (fun _ => ⟨rfl, trivial⟩) ?_)
    (refine r_mb2 _ rfl rfl (by (repeat (first | exact stripOK_nil | refine stripOK_mb id ?_ | refine stripOK_p ?_ | refine stripOK_ref ?_ | refine stripOK_row ?_ | refine stripOK_ptr ?_ | refine stripOK_agg ?_ | refine stripOK_mb (by simp_all) ?_ | refine StripOK.plain _ _ rfl ?_))) (fun hb => (a_add (by simp at hb; exact IntWalk.i64_in _ (by have := hbd hb.1; omega)))) (fun _ => trivial) ?_)
    (refine r_mb2 _ rfl rfl (by (repeat (first | exact stripOK_nil | refine stripOK_mb id ?_ | refine stripOK_p ?_ | refine stripOK_ref ?_ | refine stripOK_row ?_ | refine stripOK_ptr ?_ | refine stripOK_agg ?_ | refine stripOK_mb (by simp_all) ?_ | refine StripOK.plain _ _ rfl ?_))) (fun hb => a_geq) (fun _ => trivial) ?_)
    (refine r_pure (a_or (by first | exact id | (simp; done) | grind)) rfl rfl ?_)
    refine arun_nil ?_
    refine thn_n ?_
    refine awp_cond _ rfl (fun h => ?_) (fun h => ?_)
    · exact hcond _ h
    refine awp_skip (awp_seq ?_)
    refine awp_text (by kernel_rfl) ?_
    (refine r_pure (b_fieldAddr fi46_2 rfl) rfl rfl ?_)
    (refine r_run (a_load1 Try.underlying9 rfl (by first | rfl | assumption)) rfl rfl ⟨rfl, trivial⟩ ?_)
    (refine r_pure (a_move (r := .p _)) rfl rfl ?_)
    (refine r_pure (a_move (r := .p _)) rfl rfl ?_)
    (refine r_callV (fun n => 42 + 1000 * n) (hS) rfl rfl Try.func78 rfl rfl (by first | rfl | simp [AV.noSl, AV.noSlL, AObj.noSl, PV.isV, bs_noSl]) (by first | rfl | simp [AV.noSl, AV.noSlL, AObj.noSl, PV.isV, bs_noSl]) rfl rfl rfl (by first | exact trivial | exact ⟨rfl, trivial⟩ | exact ⟨rfl, rfl, trivial⟩) rfl rfl rfl ?_)
    (refine r_pure (a_move (r := .tup _)) rfl rfl ?_)
    (refine r_pure (a_extract rfl) rfl rfl ?_)
    (refine r_pure (a_extract rfl) rfl rfl ?_)
    (refine r_pure (a_assign (r := .row _)) rfl rfl ?_)
    (refine r_pure (a_assign (r := .p _)) rfl rfl ?_)
    refine arun_nil ?_
    refine awp_seq (awp_seq ?_)
    refine awp_text (by kernel_rfl) ?_
    (refine r_pure (a_move (r := .p _)) rfl rfl ?_)
    (refine r_pure a_neqT rfl rfl ?_)
    refine arun_nil ?_
    refine thn_n ?_
    refine awp_cond _ rfl (fun h => ?_) (fun h => ?_)
    · cases h
    refine awp_skip (awp_seq (awp_seq ?_))
    refine awp_text (by kernel_rfl) ?_
    (refine r_pure (b_fieldAddr fi46_7 rfl) rfl rfl ?_)
    (refine r_run (a_loadN Try.underlying44 rfl sz44 (by first | exact Nat.le_of_ble_eq_true rfl | omega | (simp only [AV.cells, List.length_map]; omega)) (by first | exact take_all (by first | assumption | exact Nat.eq_of_beq_eq_true rfl | (simp only [AV.cells, List.length_map]; first | assumption | omega)) | (simp only [List.take_succ_cons, List.take_zero, List.drop_succ_cons, List.drop_zero]; rfl) | rfl)) rfl rfl ⟨rfl, trivial⟩ ?_)
    (refine r_pure (a_move (r := .p _)) rfl rfl ?_)
    (refine r_callV (fun n => 53 + 1000 * n) (hT) rfl rfl Try.func79 rfl rfl (by first | rfl | simp [AV.noSl, AV.noSlL, AObj.noSl, PV.isV, bs_noSl]) (by first | rfl | simp [AV.noSl, AV.noSlL, AObj.noSl, PV.isV, bs_noSl]) rfl rfl rfl (by first | exact trivial | exact ⟨rfl, trivial⟩ | exact ⟨rfl, rfl, trivial⟩) rfl rfl rfl ?_)
    (refine r_pure (a_move (r := .tup _)) rfl rfl ?_)
    (refine r_pure (a_extract rfl) rfl rfl ?_)
    (refine r_pure (a_extract rfl) rfl rfl ?_)
    (refine r_pure (b_fieldAddr fi46_7 rfl) rfl rfl ?_)
    (refine r_run (a_store (Y := .agg _) sz44 rfl (by first | exact Nat.eq_of_beq_eq_true rfl | (simp only [AV.cells, List.length_map]; first | assumption | omega)) (by first | exact Nat.le_of_ble_eq_true rfl | omega | (simp only [AV.cells, List.length_map]; omega)) (by first | (simp only [setR, AV.cells, List.take_succ_cons, List.take_zero, List.drop_succ_cons, List.drop_zero, List.drop_nil, List.take_nil, List.nil_append, List.cons_append, List.append_nil, List.length_cons, List.length_nil, Nat.reduceAdd, Nat.zero_add, Nat.add_zero]; rfl) | rfl)) rfl rfl ⟨rfl, trivial⟩ ?_)
    (refine r_pure (a_assign (r := .p _)) rfl rfl ?_)
    refine arun_nil ?_
    refine awp_seq ?_
    refine awp_text (by kernel_rfl) ?_
    (refine r_pure (a_move (r := .p _)) rfl rfl ?_)
    (refine r_pure a_neq rfl rfl ?_)
    refine arun_nil ?_
    refine thn_n ?_
    refine awp_cond _ rfl (fun h => ?_) (fun h => ?_)
    · refine awp_seq ?_
      refine awp_text (by kernel_rfl) ?_
      (refine r_pure (b_build pl46 zr46 rfl rfl) rfl rfl ?_)
      (refine r_pure (a_move (r := .p _)) rfl rfl ?_)
      (refine r_run (a_storeAll (Y := .agg _) sz46 rfl (by first | exact Nat.eq_of_beq_eq_true rfl | (simp only [AV.cells, List.length_map]; first | assumption | omega)) (Nat.eq_of_beq_eq_true rfl)) rfl rfl ⟨rfl, trivial⟩ ?_)
      (refine r_pure (a_assign (r := .p _)) rfl rfl ?_)
      (refine r_pure (a_assign (r := .p _)) rfl rfl ?_)
      refine arun_nil ?_
      refine awp_ret (thn_r ?_)
      refine ⟨(by first | exact .inl rfl | exact .inr rfl), _, (fun o => o), (.cellN _ _ _ _ _ _ _ _ _ rfl rfl Try.underlying46 rfl sz46 (by first | assumption | kernel_rfl) (.tmp _ _ _ _ rfl (.tmp _ _ _ _ rfl .nil))), ?_, rfl, ?_, rfl⟩
      · exact rfl
      · exact trivial
    · exact absurd (by simpa using h) h4
  replace h4 : takeE k.ss k.sl k.sb c = 0 := Decidable.not_not.1 h4
  obtain ⟨e1, e2⟩ := kRes_good (hE.trans h4) (koK k c) N D
  rw [e1, e2, hck]
  rw [h4] at hT
  clear hE e1 e2 hck
  refine fn_intro Try.func35 rfl (Nat.le_of_ble_eq_true rfl) fun w0 A => ?_
  refine awp_seq ?_
  refine awp_text (by kernel_rfl) ?_
  (refine r_run (a_box (X := .agg _) 4 rfl) rfl rfl ⟨rfl, trivial⟩ ?_)
  (refine r_run (a_alloc 8 zr46 rfl) rfl rfl ⟨rfl, trivial⟩ ?_)
  (refine r_pure (a_assign (r := .p _)) rfl rfl ?_)
  (refine r_pure (a_assign (r := .p _)) rfl rfl ?_)
  refine arun_nil ?_
  refine awp_seq (awp_seq ?_)
  refine awp_text (by kernel_rfl) ?_
  (refine r_run (a_loadN Try.underlying46 rfl sz46 (by first | exact Nat.le_of_ble_eq_true rfl | omega | (simp only [AV.cells, List.length_map]; omega)) (by first | exact take_all (by first | assumption | exact Nat.eq_of_beq_eq_true rfl | (simp only [AV.cells, List.length_map]; first | assumption | omega)) | (simp only [List.take_succ_cons, List.take_zero, List.drop_succ_cons, List.drop_zero]; rfl) | rfl)) rfl rfl ⟨rfl, trivial⟩ ?_)
  (refine r_callV (fun n => 15 + 1000 * n) (hC) rfl rfl Try.func71 rfl rfl (by first | rfl | simp [AV.noSl, AV.noSlL, AObj.noSl, PV.isV, bs_noSl]) (by first | rfl | simp [AV.noSl, AV.noSlL, AObj.noSl, PV.isV, bs_noSl]) rfl rfl rfl (by first | exact trivial | exact ⟨rfl, trivial⟩ | exact ⟨rfl, rfl, trivial⟩) rfl rfl rfl ?_)
  (refine r_pure (a_assign (r := .p _)) rfl rfl ?_)
  refine arun_nil ?_
  refine awp_seq ?_
  refine awp_text (by kernel_rfl) ?_
  (refine r_pure (a_move (r := .p _)) rfl rfl ?_)
  (refine r_pure a_neqT rfl rfl ?_)
  refine arun_nil ?_
  refine thn_n ?_
  refine awp_cond _ rfl (fun h => ?_) (fun h => ?_)
  · cases h
  refine awp_skip (awp_seq (awp_seq ?_))
  refine awp_text (by kernel_rfl) ?_
  (refine r_pure (b_fieldAddr fi46_0 rfl) rfl rfl ?_)
  (refine r_run (a_load1 Try.underlying4 rfl (by first | rfl | assumption)) rfl rfl ⟨rfl, trivial⟩ ?_)
  (refine r_pure a_not rfl rfl ?_)
  (refine r_pure (a_move (r := .p _)) rfl rfl ?_)
  (refine r_mb2 _ rfl rfl (by (repeat (first | exact stripOK_nil | refine stripOK_mb id ?_ | refine stripOK_p ?_ | refine stripOK_ref ?_ | refine stripOK_row ?_ | refine stripOK_ptr ?_ | refine stripOK_agg ?_ | refine stripOK_mb (by simp_all) ?_ | refine StripOK.plain _ _ rfl ?_))) (fun hb => (a_move (r := .p _))) (fun _ => trivial) ?_)
  (refine r_mb2 _ rfl rfl (by (repeat (first | exact stripOK_nil | refine stripOK_mb id ?_ | refine stripOK_p ?_ | refine stripOK_ref ?_ | refine stripOK_row ?_ | refine stripOK_ptr ?_ | refine stripOK_agg ?_ | refine stripOK_mb (by simp_all) ?_ | refine StripOK.plain _ _ rfl ?_))) (fun hb => (b_fieldAddr fi46_5 rfl)) (fun _ => trivial) ?_)
  (refine r_mb2 _ rfl rfl (by (repeat (first | exact stripOK_nil | refine stripOK_mb id ?_ | refine stripOK_p ?_ | refine stripOK_ref ?_ | refine stripOK_row ?_ | refine stripOK_ptr ?_ | refine stripOK_agg ?_ | refine stripOK_mb (by simp_all) ?_ | refine StripOK.plain _ _ rfl ?_))) (fun hb => (a_load1 Try.underlying3 rfl (by first | rfl | assumption))) (fun _ => ⟨rfl, trivial⟩) ?_)
  (refine r_mb2 _ rfl rfl (by (repeat (first | exact stripOK_nil | refine stripOK_mb id ?_ | refine stripOK_p ?_ | refine stripOK_ref ?_ | refine stripOK_row ?_ | refine stripOK_ptr ?_ | refine stripOK_agg ?_ | refine stripOK_mb (by simp_all) ?_ | refine StripOK.plain _ _ rfl ?_))) (fun hb => a_lss) (fun _ => trivial) ?_)
  (refine r_pure (a_or (by first | exact id | (simp; done) | grind)) rfl rfl ?_)
  (refine r_pure (a_move (r := .p _)) rfl rfl ?_)
  (refine r_mb2 _ rfl rfl (by (repeat (first | exact stripOK_nil | refine stripOK_mb id ?_ | refine stripOK_p ?_ | refine stripOK_ref ?_ | refine stripOK_row ?_ | refine stripOK_ptr ?_ | refine stripOK_agg ?_ | refine stripOK_mb (by simp_all) ?_ | refine StripOK.plain _ _ rfl ?_))) (fun hb => (a_move (r := .p _))) (fun _ => trivial) ?_)
  (refine r_mb2 _ rfl rfl (by (repeat (first | exact stripOK_nil | refine stripOK_mb id ?_ | refine stripOK_p ?_ | refine stripOK_ref ?_ | refine stripOK_row ?_ | refine stripOK_ptr ?_ | refine stripOK_agg ?_ | refine stripOK_mb (by simp_all) ?_ | refine StripOK.plain _ _ rfl ?_))) (fun hb => (b_fieldAddr fi46_5 rfl)) (fun _ => trivial) ?_)
  (refine r_mb2 _ rfl rfl (by (repeat (first | exact stripOK_nil | refine stripOK_mb id ?_ | refine stripOK_p ?_ | refine stripOK_ref ?_ | refine stripOK_row ?_ | refine stripOK_ptr ?_ | refine stripOK_agg ?_ | refine stripOK_mb (by simp_all) ?_ | refine StripOK.plain _ _ rfl ?_))) (fun hb => (a_load1 Try.underlying3 rfl (by first | rfl | assumption))) (fun _ => ⟨rfl, trivial⟩) ?_)
  (refine r_mb2 _ rfl rfl (by (repeat (first | exact stripOK_nil | refine stripOK_mb id ?_ | refine stripOK_p ?_ | refine stripOK_ref ?_ | refine stripOK_row ?_ | refine stripOK_ptr ?_ | refine stripOK_agg ?_ | refine stripOK_mb (by simp_all) ?_ | refine StripOK.plain _ _ rfl ?_))) (fun hb => (a_add (by simp at hb; exact IntWalk.i64_in _ (by have := hbd hb.1; omega)))) (fun _ => trivial) ?_)
  (refine r_mb2 _ rfl rfl (by (repeat (first | exact stripOK_nil | refine stripOK_mb id ?_ | refine stripOK_p ?_ | refine stripOK_ref ?_ | refine stripOK_row ?_ | refine stripOK_ptr ?_ | refine stripOK_agg ?_ | refine stripOK_mb (by simp_all) ?_ | refine StripOK.plain _ _ rfl ?_))) (fun hb => a_geq) (fun _ => trivial) ?_)
  (refine r_pure (a_or (by first | exact id | (simp; done) | grind)) rfl rfl ?_)
  refine arun_nil ?_
  refine thn_n ?_
  refine awp_cond _ rfl (fun h => ?_) (fun h => ?_)
  · exact hcond _ h
  refine awp_skip (awp_seq ?_)
  refine awp_text (by kernel_rfl) ?_
  (refine r_pure (b_fieldAddr fi46_2 rfl) rfl rfl ?_)
  (refine r_run (a_load1 Try.underlying9 rfl (by first | rfl | assumption)) rfl rfl ⟨rfl, trivial⟩ ?_)
  (refine r_pure (a_move (r := .p _)) rfl rfl ?_)
  (refine r_pure (a_move (r := .p _)) rfl rfl ?_)
  (refine r_callV (fun n => 42 + 1000 * n) (hS) rfl rfl Try.func78 rfl rfl (by first | rfl | simp [AV.noSl, AV.noSlL, AObj.noSl, PV.isV, bs_noSl]) (by first | rfl | simp [AV.noSl, AV.noSlL, AObj.noSl, PV.isV, bs_noSl]) rfl rfl rfl (by first | exact trivial | exact ⟨rfl, trivial⟩ | exact ⟨rfl, rfl, trivial⟩) rfl rfl rfl ?_)
  (refine r_pure (a_move (r := .tup _)) rfl rfl ?_)
  (refine r_pure (a_extract rfl) rfl rfl ?_)
  (refine r_pure (a_extract rfl) rfl rfl ?_)
  (refine r_pure (a_assign (r := .row _)) rfl rfl ?_)
  (refine r_pure (a_assign (r := .p _)) rfl rfl ?_)
  refine arun_nil ?_
  refine awp_seq (awp_seq ?_)
  refine awp_text (by kernel_rfl) ?_
  (refine r_pure (a_move (r := .p _)) rfl rfl ?_)
  (refine r_pure a_neqT rfl rfl ?_)
  refine arun_nil ?_
  refine thn_n ?_
  refine awp_cond _ rfl (fun h => ?_) (fun h => ?_)
  · cases h
  refine awp_skip (awp_seq (awp_seq ?_))
  refine awp_text (by kernel_rfl) ?_
  (refine r_pure (b_fieldAddr fi46_7 rfl) rfl rfl ?_)
  (refine r_run (a_loadN Try.underlying44 rfl sz44 (by first | exact Nat.le_of_ble_eq_true rfl | omega | (simp only [AV.cells, List.length_map]; omega)) (by first | exact take_all (by first | assumption | exact Nat.eq_of_beq_eq_true rfl | (simp only [AV.cells, List.length_map]; first | assumption | omega)) | (simp only [List.take_succ_cons, List.take_zero, List.drop_succ_cons, List.drop_zero]; rfl) | rfl)) rfl rfl ⟨rfl, trivial⟩ ?_)
  (refine r_pure (a_move (r := .p _)) rfl rfl ?_)
  (refine r_callV (fun n => 53 + 1000 * n) (hT) rfl rfl Try.func79 rfl rfl (by first | rfl | simp [AV.noSl, AV.noSlL, AObj.noSl, PV.isV, bs_noSl]) (by first | rfl | simp [AV.noSl, AV.noSlL, AObj.noSl, PV.isV, bs_noSl]) rfl rfl rfl (by first | exact trivial | exact ⟨rfl, trivial⟩ | exact ⟨rfl, rfl, trivial⟩) rfl rfl rfl ?_)
  (refine r_pure (a_move (r := .tup _)) rfl rfl ?_)
  (refine r_pure (a_extract rfl) rfl rfl ?_)
  (refine r_pure (a_extract rfl) rfl rfl ?_)
  (refine r_pure (b_fieldAddr fi46_7 rfl) rfl rfl ?_)
  (refine r_run (a_store (Y := .agg _) sz44 rfl (by first | exact Nat.eq_of_beq_eq_true rfl | (simp only [AV.cells, List.length_map]; first | assumption | omega)) (by first | exact Nat.le_of_ble_eq_true rfl | omega | (simp only [AV.cells, List.length_map]; omega)) (by first | (simp only [setR, AV.cells, List.take_succ_cons, List.take_zero, List.drop_succ_cons, List.drop_zero, List.drop_nil, List.take_nil, List.nil_append, List.cons_append, List.append_nil, List.length_cons, List.length_nil, Nat.reduceAdd, Nat.zero_add, Nat.add_zero]; rfl) | rfl)) rfl rfl ⟨rfl, trivial⟩ ?_)
  (refine r_pure (a_assign (r := .p _)) rfl rfl ?_)
  refine arun_nil ?_
  refine awp_seq ?_
  refine awp_text (by kernel_rfl) ?_
  (refine r_pure (a_move (r := .p _)) rfl rfl ?_)
  (refine r_pure a_neqT rfl rfl ?_)
  refine arun_nil ?_
  refine thn_n ?_
  refine awp_cond _ rfl (fun h => ?_) (fun h => ?_)
  · cases h
  refine awp_skip (awp_seq ?_)
  refine awp_text (by kernel_rfl) ?_
  (refine r_run (a_loadN Try.underlying46 rfl sz46 (by first | exact Nat.le_of_ble_eq_true rfl | omega | (simp only [AV.cells, List.length_map]; omega)) (by first | exact take_all (by first | assumption | exact Nat.eq_of_beq_eq_true rfl | (simp only [AV.cells, List.length_map]; first | assumption | omega)) | (simp only [List.take_succ_cons, List.take_zero, List.drop_succ_cons, List.drop_zero]; rfl) | rfl)) rfl rfl ⟨rfl, trivial⟩ ?_)
  (refine r_pure (a_move (r := .row _)) rfl rfl ?_)
  (refine r_run (a_storeAll (Y := .agg _) sz46 rfl (by first | exact Nat.eq_of_beq_eq_true rfl | (simp only [AV.cells, List.length_map]; first | assumption | omega)) (Nat.eq_of_beq_eq_true rfl)) rfl rfl ⟨rfl, trivial⟩ ?_)
  (refine r_pure (a_assign (r := .row _)) rfl rfl ?_)
  (refine r_pure (a_assign (r := .p _)) rfl rfl ?_)
  refine arun_nil ?_
  refine awp_ret ?_
  refine ⟨(by first | exact .inl rfl | exact .inr rfl), _, (fun _ => 42), (.cellN _ _ _ _ _ _ _ _ _ rfl rfl Try.underlying46 rfl sz46 (by first | assumption | kernel_rfl) (.tmp _ _ _ _ rfl (.tmp _ _ _ _ rfl .nil))), ?_, rfl, ?_, rfl⟩
  · exact rfl
  · exact ⟨⟨rfl, rfl⟩, trivial⟩
end Go.Proofs.Ytckkmfoccefcfaa
