/- Tries: the laws TrieGets, TriePuts, TrieFinds. -/
import Derived.Test.YtckkmfoccefcfaaTw9
--%T
namespace Go.Proofs.Ytckkmfoccefcfaa
open Go.RowKit Go.Sort
set_option linter.unusedVariables false
set_option linter.unusedSimpArgs false
set_option maxRecDepth 100000

/-! getting and dropping, the reference -/
theorem kEqR {p q : Key} (hq : q.length ≤ 32) : eqL [.int .u32 (addrK p), .int .i64 p.length] [.int .u32 (addrK q), .int .i64 q.length] = decide (p = q) := by
  rw [Bool.eq_iff_iff, eqL_true, decide_eq_true_eq]
  constructor
  · intro h
    simp only [List.cons.injEq, Value.int.injEq, true_and, and_true] at h
    exact addrK_inj (by omega) (by omega) h.1
  · intro h; rw [h]
theorem refDrop1_s (q : Key) (x : Key × Own) (hx : x.1.length ≤ 32) : Fn Try.prog 63 [.agg (kvA x), .ptr [.v (.int .u32 (addrK q)), .v (.int .i64 q.length)]] (.p (.v (.bool (decide (x.1 = q))))) [] := by
  rw [← keyEq hx]
  unfold kvA
  refine fn_intro Try.func63 rfl (Nat.le_of_ble_eq_true rfl) fun w0 A => ?_
  refine awp_seq ?_
  refine awp_text (by kernel_rfl) ?_
  (refine r_run (a_box (X := .agg _) 2 rfl) rfl rfl ⟨rfl, trivial⟩ ?_)
  (refine r_pure (a_assign (r := .p _)) rfl rfl ?_)
  refine arun_nil ?_
  refine awp_seq ?_
  refine awp_text (by kernel_rfl) ?_
  (refine r_pure (b_fieldAddr fi72_0 rfl) rfl rfl ?_)
  (refine r_run (a_loadN Try.underlying36 rfl sz36 (by first | exact Nat.le_of_ble_eq_true rfl | omega | (simp only [AV.cells, List.length_map]; omega)) (by first | exact take_all (by first | assumption | exact Nat.eq_of_beq_eq_true rfl | (simp only [AV.cells, List.length_map]; first | assumption | omega)) | (simp only [List.take_succ_cons, List.take_zero, List.drop_succ_cons, List.drop_zero]; rfl) | rfl)) rfl rfl ⟨rfl, trivial⟩ ?_)
  (refine r_pure (a_loadNp Try.underlying36 rfl sz36 (by first | omega | (simp; done) | (simp; omega)) (rfl)) rfl rfl ?_)
  (refine r_pure (a_steql Try.underlying36 rfl rfl (by kernel_rfl) (by kernel_rfl) (by kernel_rfl)) rfl rfl ?_)
  (refine r_pure (a_assign (r := .p _)) rfl rfl ?_)
  refine arun_nil ?_
  refine awp_ret ?_
  refine ⟨(by first | exact .inl rfl | exact .inr rfl), _, (fun o => o), (.tmp _ _ _ _ rfl .nil), ?_, rfl, ?_, rfl⟩
  · exact rfl
  · exact trivial
theorem refPut1_s (q : Key) (x : Key × Own) (hx : x.1.length ≤ 32) : Fn Try.prog 65 [.agg (kvA x), .ptr [.v (.int .u32 (addrK q)), .v (.int .i64 q.length)]] (.p (.v (.bool (decide (x.1 = q))))) [] := by
  rw [← keyEq hx]
  unfold kvA
  refine fn_intro Try.func65 rfl (Nat.le_of_ble_eq_true rfl) fun w0 A => ?_
  refine awp_seq ?_
  refine awp_text (by kernel_rfl) ?_
  (refine r_run (a_box (X := .agg _) 2 rfl) rfl rfl ⟨rfl, trivial⟩ ?_)
  (refine r_pure (a_assign (r := .p _)) rfl rfl ?_)
  refine arun_nil ?_
  refine awp_seq ?_
  refine awp_text (by kernel_rfl) ?_
  (refine r_pure (b_fieldAddr fi72_0 rfl) rfl rfl ?_)
  (refine r_run (a_loadN Try.underlying36 rfl sz36 (by first | exact Nat.le_of_ble_eq_true rfl | omega | (simp only [AV.cells, List.length_map]; omega)) (by first | exact take_all (by first | assumption | exact Nat.eq_of_beq_eq_true rfl | (simp only [AV.cells, List.length_map]; first | assumption | omega)) | (simp only [List.take_succ_cons, List.take_zero, List.drop_succ_cons, List.drop_zero]; rfl) | rfl)) rfl rfl ⟨rfl, trivial⟩ ?_)
  (refine r_pure (a_loadNp Try.underlying36 rfl sz36 (by first | omega | (simp; done) | (simp; omega)) (rfl)) rfl rfl ?_)
  (refine r_pure (a_steql Try.underlying36 rfl rfl (by kernel_rfl) (by kernel_rfl) (by kernel_rfl)) rfl rfl ?_)
  (refine r_pure (a_assign (r := .p _)) rfl rfl ?_)
  refine arun_nil ?_
  refine awp_ret ?_
  refine ⟨(by first | exact .inl rfl | exact .inr rfl), _, (fun o => o), (.tmp _ _ _ _ rfl .nil), ?_, rfl, ?_, rfl⟩
  · exact rfl
  · exact trivial
set_option maxHeartbeats 4000000 in
theorem refGet_s (l : List ND) (hok : ∀ x ∈ l, x.OK) (hz : l.length * 40 ≤ 140737488351232) (n : ND) (n0 : 0 ≤ n.a) (n1 : n.a < 4294967296) : Fn Try.prog 25 [.p (ndsV l), .agg (netA n.a n.n)] (.tup [.p (.v (.string (getO l n))), .p (.v (.int .i64 (getE l n)))]) [] := by
  have hC := rcheck_s l hok hz
  have hN := nrFault_s n.a n.n n0 n1
  have hK := @ND.keyed n n0 n1
  have e0 : netFault n.a n.n = n.fault := rfl
  rw [e0] at hN
  have hE : getE l n = if trieE l ≠ 0 then trieE l else if n.fault ≠ 0 then n.fault else if (treeOf l).get n.key = noOwn then 5 else 0 := rfl
  by_cases h1 : trieE l ≠ 0
  · rw [if_pos h1] at hE
    rw [getO_bad (by rw [hE]; exact h1), hE]
    generalize trieE l = e at *
    refine fn_intro Try.func25 rfl (Nat.le_of_ble_eq_true rfl) fun w0 A => ?_
    refine awp_seq ?_
    refine awp_text (by kernel_rfl) ?_
    (refine r_run (a_box (X := .agg _) 3 rfl) rfl rfl ⟨rfl, trivial⟩ ?_)
    (refine r_pure (a_assign (r := .p _)) rfl rfl ?_)
    (refine r_pure (a_assign (r := .p _)) rfl rfl ?_)
    refine arun_nil ?_
    refine awp_seq (awp_seq ?_)
    refine awp_text (by kernel_rfl) ?_
    (refine r_pure (a_move (r := .p _)) rfl rfl ?_)
    (refine r_callV (fun n => 11 + 1000 * n) (hC) rfl rfl Try.func15 rfl rfl (by first | rfl | simp [AV.noSl, AV.noSlL, AObj.noSl, PV.isV, bs_noSl]) (by first | rfl | simp [AV.noSl, AV.noSlL, AObj.noSl, PV.isV, bs_noSl]) rfl rfl rfl (by first | exact trivial | exact ⟨rfl, trivial⟩ | exact ⟨rfl, rfl, trivial⟩) rfl rfl rfl ?_)
    (refine r_pure (a_assign (r := .p _)) rfl rfl ?_)
    refine arun_nil ?_
    refine awp_seq ?_
    refine awp_text (by kernel_rfl) ?_
    (refine r_pure (a_move (r := .p _)) rfl rfl ?_)
    (refine r_pure a_neq rfl rfl ?_)
    refine arun_nil ?_
    refine thn_n ?_
    refine awp_cond _ rfl (fun h => ?_) (fun h => ?_)
    · refine awp_seq ?_
      refine awp_text (by kernel_rfl) ?_
      (refine r_pure (a_move (r := .p _)) rfl rfl ?_)
      (refine r_pure (a_assign (r := .p _)) rfl rfl ?_)
      (refine r_pure (a_assign (r := .p _)) rfl rfl ?_)
      refine arun_nil ?_
      refine awp_ret (thn_r ?_)
      refine ⟨(by first | exact .inl rfl | exact .inr rfl), _, (fun o => o), (.tmp _ _ _ _ rfl (.tmp _ _ _ _ rfl .nil)), ?_, rfl, ?_, rfl⟩
      · exact rfl
      · exact trivial
    · exact absurd (by simpa using h) h1
  rw [if_neg h1] at hE
  replace h1 : trieE l = 0 := Decidable.not_not.1 h1
  have hC0 : Fn Try.prog 15 [.p (ndsV l)] (.p (.v (.int .i64 0))) [] := by rw [← h1]; exact hC
  by_cases h2 : n.fault ≠ 0
  · rw [if_pos h2] at hE
    rw [getO_bad (by rw [hE]; exact h2), hE]
    generalize n.fault = e at *
    refine fn_intro Try.func25 rfl (Nat.le_of_ble_eq_true rfl) fun w0 A => ?_
    refine awp_seq ?_
    refine awp_text (by kernel_rfl) ?_
    (refine r_run (a_box (X := .agg _) 3 rfl) rfl rfl ⟨rfl, trivial⟩ ?_)
    (refine r_pure (a_assign (r := .p _)) rfl rfl ?_)
    (refine r_pure (a_assign (r := .p _)) rfl rfl ?_)
    refine arun_nil ?_
    refine awp_seq (awp_seq ?_)
    refine awp_text (by kernel_rfl) ?_
    (refine r_pure (a_move (r := .p _)) rfl rfl ?_)
    (refine r_callV (fun n => 11 + 1000 * n) (hC0) rfl rfl Try.func15 rfl rfl (by first | rfl | simp [AV.noSl, AV.noSlL, AObj.noSl, PV.isV, bs_noSl]) (by first | rfl | simp [AV.noSl, AV.noSlL, AObj.noSl, PV.isV, bs_noSl]) rfl rfl rfl (by first | exact trivial | exact ⟨rfl, trivial⟩ | exact ⟨rfl, rfl, trivial⟩) rfl rfl rfl ?_)
    (refine r_pure (a_assign (r := .p _)) rfl rfl ?_)
    refine arun_nil ?_
    refine awp_seq ?_
    refine awp_text (by kernel_rfl) ?_
    (refine r_pure (a_move (r := .p _)) rfl rfl ?_)
    (refine r_pure a_neqT rfl rfl ?_)
    refine arun_nil ?_
    refine thn_n ?_
    refine awp_cond _ rfl (fun h => ?_) (fun h => ?_)
    · cases h
    refine awp_skip (awp_seq (awp_seq ?_))
    refine awp_text (by kernel_rfl) ?_
    (refine r_run (a_loadN Try.underlying36 rfl sz36 (by first | exact Nat.le_of_ble_eq_true rfl | omega | (simp only [AV.cells, List.length_map]; omega)) (by first | exact take_all (by first | assumption | exact Nat.eq_of_beq_eq_true rfl | (simp only [AV.cells, List.length_map]; first | assumption | omega)) | (simp only [List.take_succ_cons, List.take_zero, List.drop_succ_cons, List.drop_zero]; rfl) | rfl)) rfl rfl ⟨rfl, trivial⟩ ?_)
    (refine r_callV (fun n => 16 + 1000 * n) (hN) rfl rfl Try.func47 rfl rfl (by first | rfl | simp [AV.noSl, AV.noSlL, AObj.noSl, PV.isV, bs_noSl]) (by first | rfl | simp [AV.noSl, AV.noSlL, AObj.noSl, PV.isV, bs_noSl]) rfl rfl rfl (by first | exact trivial | exact ⟨rfl, trivial⟩ | exact ⟨rfl, rfl, trivial⟩) rfl rfl rfl ?_)
    (refine r_pure (a_assign (r := .p _)) rfl rfl ?_)
    refine arun_nil ?_
    refine awp_seq ?_
    refine awp_text (by kernel_rfl) ?_
    (refine r_pure (a_move (r := .p _)) rfl rfl ?_)
    (refine r_pure a_neq rfl rfl ?_)
    refine arun_nil ?_
    refine thn_n ?_
    refine awp_cond _ rfl (fun h => ?_) (fun h => ?_)
    · refine awp_seq ?_
      refine awp_text (by kernel_rfl) ?_
      (refine r_pure (a_move (r := .p _)) rfl rfl ?_)
      (refine r_pure (a_assign (r := .p _)) rfl rfl ?_)
      (refine r_pure (a_assign (r := .p _)) rfl rfl ?_)
      refine arun_nil ?_
      refine awp_ret (thn_r ?_)
      refine ⟨(by first | exact .inl rfl | exact .inr rfl), _, (fun o => o), (.tmp _ _ _ _ rfl (.tmp _ _ _ _ rfl .nil)), ?_, rfl, ?_, rfl⟩
      · exact rfl
      · exact trivial
    · exact absurd (by simpa using h) h2
  rw [if_neg h2] at hE
  replace h2 : n.fault = 0 := Decidable.not_not.1 h2
  rw [h2] at hN
  obtain ⟨hv, hs, hl⟩ := (trieE_iff hok).1 h1
  obtain ⟨f1, f2, f3⟩ := trie_few hok h1
  obtain ⟨k1, k2, k3⟩ := hK h2
  have hO := owned_s l (by omega)
  rw [ownedL_prs hok f1] at hO
  have hKs := prs_short hok f1
  have hKo := @prs_own l
  have hO2 : getO l n = if getE l n = 0 then (treeOf l).get n.key else noOwn := rfl
  rw [get_ref hv, ← f2] at hE hO2
  generalize getO l n = O at *
  generalize getE l n = E at *
  generalize prs l = K at *
  generalize n.key = k at *
  obtain ⟨na, nn, no, ns⟩ := n
  simp only at k2 k3
  subst k2
  subst k3
  have hKn := one_len K
  rw [List.length_map] at hO
  have hEnd : ∀ i : Nat, (∀ j y, j < i → K[j]? = some y → y.1 ≠ k) → ∀ x, K[i]? = some x → x.1 = k → refGet k K = x.2 := by
    clear hO hO2 hE hC hC0 hKn f2 f3 hKs hKo
    induction K with
    | nil => intro i _ x hx; simp at hx
    | cons y K ih =>
      intro i hj x hx hxk
      rw [refGet]
      cases i with
      | zero => simp at hx; subst hx; rw [if_pos hxk]
      | succ i =>
        rw [if_neg (hj 0 y (by omega) (by simp))]
        exact ih i (fun j z hji hz => hj (j + 1) z (by omega) (by simpa using hz)) x (by simpa using hx) hxk
  generalize hB : nds (K.map one) = B at *
  refine fn_intro Try.func25 rfl (Nat.le_of_ble_eq_true rfl) fun w0 A => ?_
  refine awp_seq ?_
  refine awp_text (by kernel_rfl) ?_
  (refine r_run (a_box (X := .agg _) 3 rfl) rfl rfl ⟨rfl, trivial⟩ ?_)
  (refine r_pure (a_assign (r := .p _)) rfl rfl ?_)
  (refine r_pure (a_assign (r := .p _)) rfl rfl ?_)
  refine arun_nil ?_
  refine awp_seq (awp_seq ?_)
  refine awp_text (by kernel_rfl) ?_
  (refine r_pure (a_move (r := .p _)) rfl rfl ?_)
  (refine r_callV (fun n => 11 + 1000 * n) (hC0) rfl rfl Try.func15 rfl rfl (by first | rfl | simp [AV.noSl, AV.noSlL, AObj.noSl, PV.isV, bs_noSl]) (by first | rfl | simp [AV.noSl, AV.noSlL, AObj.noSl, PV.isV, bs_noSl]) rfl rfl rfl (by first | exact trivial | exact ⟨rfl, trivial⟩ | exact ⟨rfl, rfl, trivial⟩) rfl rfl rfl ?_)
  (refine r_pure (a_assign (r := .p _)) rfl rfl ?_)
  refine arun_nil ?_
  refine awp_seq ?_
  refine awp_text (by kernel_rfl) ?_
  (refine r_pure (a_move (r := .p _)) rfl rfl ?_)
  (refine r_pure a_neqT rfl rfl ?_)
  refine arun_nil ?_
  refine thn_n ?_
  refine awp_cond _ rfl (fun h => ?_) (fun h => ?_)
  · cases h
  refine awp_skip (awp_seq (awp_seq ?_))
  refine awp_text (by kernel_rfl) ?_
  (refine r_run (a_loadN Try.underlying36 rfl sz36 (by first | exact Nat.le_of_ble_eq_true rfl | omega | (simp only [AV.cells, List.length_map]; omega)) (by first | exact take_all (by first | assumption | exact Nat.eq_of_beq_eq_true rfl | (simp only [AV.cells, List.length_map]; first | assumption | omega)) | (simp only [List.take_succ_cons, List.take_zero, List.drop_succ_cons, List.drop_zero]; rfl) | rfl)) rfl rfl ⟨rfl, trivial⟩ ?_)
  (refine r_callV (fun n => 16 + 1000 * n) (hN) rfl rfl Try.func47 rfl rfl (by first | rfl | simp [AV.noSl, AV.noSlL, AObj.noSl, PV.isV, bs_noSl]) (by first | rfl | simp [AV.noSl, AV.noSlL, AObj.noSl, PV.isV, bs_noSl]) rfl rfl rfl (by first | exact trivial | exact ⟨rfl, trivial⟩ | exact ⟨rfl, rfl, trivial⟩) rfl rfl rfl ?_)
  (refine r_pure (a_assign (r := .p _)) rfl rfl ?_)
  refine arun_nil ?_
  refine awp_seq ?_
  refine awp_text (by kernel_rfl) ?_
  (refine r_pure (a_move (r := .p _)) rfl rfl ?_)
  (refine r_pure a_neqT rfl rfl ?_)
  refine arun_nil ?_
  refine thn_n ?_
  refine awp_cond _ rfl (fun h => ?_) (fun h => ?_)
  · cases h
  refine awp_skip (awp_seq (awp_seq ?_))
  refine awp_text (by kernel_rfl) ?_
  (refine r_pure (a_move (r := .p _)) rfl rfl ?_)
  (refine r_callS (fun n => 21 + 1000 * n) (hO) rfl rfl Try.func48 rfl rfl (by first | rfl | simp [AV.okInL, AV.okIn, okInL_map]) rfl rfl rfl (by first | exact trivial | exact ⟨rfl, trivial⟩ | exact ⟨rfl, rfl, trivial⟩) rfl rfl rfl ?_)
  (refine r_run (a_lenR Try.underlying22) rfl rfl ⟨rfl, trivial⟩ ?_)
  (refine r_pure (a_move (r := .p _)) rfl rfl ?_)
  refine arun_nil ?_
  refine awp_block ?_
  refine awp_loopR (fun m st => ∃ i : Nat, m + i = K.length ∧ (∀ j y, j < i → K[j]? = some y → y.1 ≠ k) ∧ st = St.of [(3, .ref 3 0), (21, .row 21), (22, .p (.v (.int .i64 K.length))), (23, .p (.v (.int .i64 i)))] [(3, .box 36 (netA (addrK k) k.length)), (21, .row 72 4 K.length B)]) K.length ?_ ?_
  · refine ⟨_, re_of id _ _ (by repeat (first | exact trivial | refine ⟨⟨rfl, rfl⟩, ?_⟩)) (by repeat (first | exact trivial | refine ⟨⟨rfl, rfl⟩, ?_⟩)) rfl, 0, by omega, by omega, rfl⟩
  rintro m st ⟨i, hi, hj, rfl⟩
  refine awp_seq ?_
  refine awp_text (by kernel_rfl) ?_
  (refine r_pure a_lss rfl rfl ?_)
  refine arun_nil ?_
  refine awp_seq ?_
  refine awp_cond _ rfl (fun h => ?_) (fun h => ?_)
  · have hlt : i < K.length := by simp at h; omega
    clear h
    obtain ⟨x, hx⟩ : ∃ x, K[i]? = some x := ⟨K[i], List.getElem?_eq_getElem hlt⟩
    have hld := one_at hx
    rw [hB] at hld
    have hEq := keyEq (p := x.1) (q := k) (hKs x (List.mem_of_getElem? hx))
    refine awp_skip (awp_seq (awp_block (awp_seq ?_)))
    refine awp_text (by kernel_rfl) ?_
    (refine r_run (a_indexAddrR Try.underlying22 sz72 (by omega) (by omega) (by first | (simp only [Int.toNat_natCast, Nat.mul_one, Nat.zero_add]; rfl) | rfl)) rfl rfl ⟨rfl, trivial⟩ ?_)
    (refine r_run (a_loadNr Try.underlying72 rfl sz72 (by omega) (hld)) rfl rfl ⟨rfl, trivial⟩ ?_)
    (refine r_run (a_alloc 9 zr72 rfl) rfl rfl ⟨rfl, trivial⟩ ?_)
    (refine r_run (a_storeAll (Y := .agg _) sz72 rfl (by first | exact Nat.eq_of_beq_eq_true rfl | (simp only [AV.cells, List.length_map]; first | assumption | omega)) (Nat.eq_of_beq_eq_true rfl)) rfl rfl ⟨rfl, trivial⟩ ?_)
    refine arun_nil ?_
    refine awp_seq ?_
    refine awp_text (by kernel_rfl) ?_
    (refine r_pure (b_fieldAddr fi72_0 rfl) rfl rfl ?_)
    (refine r_run (a_loadN Try.underlying36 rfl sz36 (by first | exact Nat.le_of_ble_eq_true rfl | omega | (simp only [AV.cells, List.length_map]; omega)) (by first | exact take_all (by first | assumption | exact Nat.eq_of_beq_eq_true rfl | (simp only [AV.cells, List.length_map]; first | assumption | omega)) | (simp only [List.take_succ_cons, List.take_zero, List.drop_succ_cons, List.drop_zero]; rfl) | rfl)) rfl rfl ⟨rfl, trivial⟩ ?_)
    (refine r_run (a_loadN Try.underlying36 rfl sz36 (by first | exact Nat.le_of_ble_eq_true rfl | omega | (simp only [AV.cells, List.length_map]; omega)) (by first | exact take_all (by first | assumption | exact Nat.eq_of_beq_eq_true rfl | (simp only [AV.cells, List.length_map]; first | assumption | omega)) | (simp only [List.take_succ_cons, List.take_zero, List.drop_succ_cons, List.drop_zero]; rfl) | rfl)) rfl rfl ⟨rfl, trivial⟩ ?_)
    (refine r_pure (a_steql Try.underlying36 rfl rfl (by kernel_rfl) (by kernel_rfl) (by kernel_rfl)) rfl rfl ?_)
    refine arun_nil ?_
    refine thn_n ?_
    refine awp_cond _ rfl (fun h => ?_) (fun h => ?_)
    · have he : x.1 = k := by
        have h' := h
        rw [hEq] at h'
        simpa using h'
      have hg := hEnd i hj x hx he
      rw [hg, if_neg (hKo x (List.mem_of_getElem? hx))] at hE
      rw [hE, if_pos rfl, hg] at hO2
      rw [hE, hO2]
      refine awp_seq ?_
      refine awp_text (by kernel_rfl) ?_
      (refine r_pure (b_fieldAddr fi72_1 rfl) rfl rfl ?_)
      (refine r_run (a_load1 Try.underlying9 rfl (by first | rfl | assumption)) rfl rfl ⟨rfl, trivial⟩ ?_)
      (refine r_pure (a_assign (r := .p _)) rfl rfl ?_)
      (refine r_pure (a_assign (r := .p _)) rfl rfl ?_)
      refine arun_nil ?_
      refine awp_ret (inb_r (thn_r (thn_r (inb_r (thn_r ?_)))))
      refine ⟨(by first | exact .inl rfl | exact .inr rfl), _, (fun o => o), (.tmp _ _ _ _ rfl (.tmp _ _ _ _ rfl .nil)), ?_, rfl, ?_, rfl⟩
      · exact rfl
      · exact trivial
    · have he : x.1 ≠ k := by
        have h' := h
        rw [hEq] at h'
        simpa using h'
      refine awp_skip (inb_n (thn_n ?_))
      refine awp_text (by kernel_rfl) ?_
      (refine r_pure (a_add (by first | exact IntWalk.i64_in _ (by omega) | rfl)) rfl rfl ?_)
      (refine r_pure (a_move (r := .p _)) rfl rfl ?_)
      refine arun_nil ?_
      refine thn_n ?_
      refine ⟨m - 1, by omega, _, re_of id _ _ (by repeat (first | exact trivial | refine ⟨⟨rfl, rfl⟩, ?_⟩)) (by repeat (first | exact trivial | refine ⟨⟨rfl, rfl⟩, ?_⟩)) rfl, i + 1, by omega, ?_, rfl⟩
      intro j y hj2 hy
      by_cases hji : j = i
      · subst hji; rw [hx] at hy; cases hy; exact he
      · exact hj j y (by omega) hy
  have hge : i = K.length := by simp at h; omega
  clear h
  subst hge
  have hg : refGet k K = noOwn := refGet_none fun x hx => by
    obtain ⟨j, hj1, rfl⟩ := List.mem_iff_getElem.1 hx
    exact hj j _ hj1 (List.getElem?_eq_getElem hj1)
  rw [hg, if_pos rfl] at hE
  rw [hE, if_neg (by decide)] at hO2
  rw [hE, hO2]
  refine awp_exit (awp_seq ?_)
  refine awp_text (by kernel_rfl) ?_
  (refine r_pure (a_assign (r := .p _)) rfl rfl ?_)
  (refine r_pure (a_assign (r := .p _)) rfl rfl ?_)
  refine arun_nil ?_
  refine awp_ret ?_
  refine ⟨(by first | exact .inl rfl | exact .inr rfl), _, (fun o => o), (.tmp _ _ _ _ rfl (.tmp _ _ _ _ rfl .nil)), ?_, rfl, ?_, rfl⟩
  · exact rfl
  · exact trivial

set_option maxHeartbeats 2000000 in
theorem refDrop_s (l : List ND) (hok : ∀ x ∈ l, x.OK) (hz : l.length * 40 ≤ 140737488351232) (n : ND) (n0 : 0 ≤ n.a) (n1 : n.a < 4294967296) : Fn Try.prog 26 [.p (ndsV l), .agg (netA n.a n.n)] (nRes (getE l n)) (nNew (getE l n) (dropL l n)) := by
  have hG := refGet_s l hok hz n n0 n1
  by_cases h1 : getE l n ≠ 0
  · obtain ⟨e1, e2⟩ := nRes_bad h1 (dropL l n)
    rw [e1, e2]
    generalize getE l n = e at *
    generalize getO l n = oo at *
    refine fn_intro Try.func26 rfl (Nat.le_of_ble_eq_true rfl) fun w0 A => ?_
    refine awp_seq ?_
    refine awp_text (by kernel_rfl) ?_
    (refine r_run (a_box (X := .agg _) 3 rfl) rfl rfl ⟨rfl, trivial⟩ ?_)
    (refine r_pure (a_assign (r := .p _)) rfl rfl ?_)
    (refine r_pure (a_assign (r := .p _)) rfl rfl ?_)
    refine arun_nil ?_
    refine awp_seq (awp_seq ?_)
    refine awp_text (by kernel_rfl) ?_
    (refine r_pure (a_move (r := .p _)) rfl rfl ?_)
    (refine r_run (a_loadN Try.underlying36 rfl sz36 (by first | exact Nat.le_of_ble_eq_true rfl | omega | (simp only [AV.cells, List.length_map]; omega)) (by first | exact take_all (by first | assumption | exact Nat.eq_of_beq_eq_true rfl | (simp only [AV.cells, List.length_map]; first | assumption | omega)) | (simp only [List.take_succ_cons, List.take_zero, List.drop_succ_cons, List.drop_zero]; rfl) | rfl)) rfl rfl ⟨rfl, trivial⟩ ?_)
    (refine r_callV (fun n => 11 + 1000 * n) (hG) rfl rfl Try.func25 rfl rfl (by first | rfl | simp [AV.noSl, AV.noSlL, AObj.noSl, PV.isV, bs_noSl]) (by first | rfl | simp [AV.noSl, AV.noSlL, AObj.noSl, PV.isV, bs_noSl]) rfl rfl rfl (by first | exact trivial | exact ⟨rfl, trivial⟩ | exact ⟨rfl, rfl, trivial⟩) rfl rfl rfl ?_)
    (refine r_pure (a_move (r := .tup _)) rfl rfl ?_)
    (refine r_pure (a_extract rfl) rfl rfl ?_)
    (refine r_pure (a_extract rfl) rfl rfl ?_)
    (refine r_pure (a_assign (r := .p _)) rfl rfl ?_)
    (refine r_pure (a_assign (r := .p _)) rfl rfl ?_)
    refine arun_nil ?_
    refine awp_seq ?_
    refine awp_text (by kernel_rfl) ?_
    (refine r_pure (a_move (r := .p _)) rfl rfl ?_)
    (refine r_pure a_neq rfl rfl ?_)
    refine arun_nil ?_
    refine thn_n ?_
    refine awp_cond _ rfl (fun h => ?_) (fun h => ?_)
    · refine awp_seq ?_
      refine awp_text (by kernel_rfl) ?_
      (refine r_pure (a_move (r := .p _)) rfl rfl ?_)
      (refine r_pure (a_assign (r := .p _)) rfl rfl ?_)
      (refine r_pure (a_assign (r := .p _)) rfl rfl ?_)
      refine arun_nil ?_
      refine awp_ret (thn_r ?_)
      refine ⟨(by first | exact .inl rfl | exact .inr rfl), _, (fun o => o), (.tmp _ _ _ _ rfl (.tmp _ _ _ _ rfl .nil)), ?_, rfl, ?_, rfl⟩
      · exact rfl
      · exact trivial
    · exact absurd (by simpa using h) h1
  replace h1 : getE l n = 0 := Decidable.not_not.1 h1
  have h2 : trieE l = 0 ∧ n.fault = 0 := by
    have h1' := h1
    unfold getE at h1'
    by_cases a : trieE l = 0
    · rw [if_neg (by simp [a])] at h1'
      by_cases b : n.fault = 0
      · exact ⟨a, b⟩
      · rw [if_pos b] at h1'; exact absurd h1' b
    · rw [if_pos a] at h1'; exact absurd h1' a
  rw [h1] at hG ⊢
  obtain ⟨e1, e2⟩ := nRes_good (dropL l n)
  rw [e1, e2]
  clear e1 e2
  obtain ⟨f1, f2, f3⟩ := trie_few hok h2.1
  obtain ⟨hv, hs, hl⟩ := (trieE_iff hok).1 h2.1
  obtain ⟨k1, k2, k3⟩ := @ND.keyed n n0 n1 h2.2
  have hW := without_s (C := [.v (.int .u32 (addrK n.key)), .v (.int .i64 n.key.length)]) (fun p _ => decide (p = n.key)) Try.func63 rfl rfl (fun x hx => refDrop1_s n.key x hx) l hok f1 (by omega) f3
  rw [f2, strip_grown (fun p _ => decide (p = n.key)) hv] at hW
  unfold dropL
  rw [← k2, ← k3] at hW
  generalize getO l n = oo at *
  generalize ((treeOf l).strip fun p _ => decide (p = n.key)) = u at *
  have hiv := nds_isV u.list
  generalize nds u.list = cs at *
  generalize u.list.length = m at *
  refine fn_intro Try.func26 rfl (Nat.le_of_ble_eq_true rfl) fun w0 A => ?_
  refine awp_seq ?_
  refine awp_text (by kernel_rfl) ?_
  (refine r_run (a_box (X := .agg _) 3 rfl) rfl rfl ⟨rfl, trivial⟩ ?_)
  (refine r_pure (a_assign (r := .p _)) rfl rfl ?_)
  (refine r_pure (a_assign (r := .p _)) rfl rfl ?_)
  refine arun_nil ?_
  refine awp_seq (awp_seq ?_)
  refine awp_text (by kernel_rfl) ?_
  (refine r_pure (a_move (r := .p _)) rfl rfl ?_)
  (refine r_run (a_loadN Try.underlying36 rfl sz36 (by first | exact Nat.le_of_ble_eq_true rfl | omega | (simp only [AV.cells, List.length_map]; omega)) (by first | exact take_all (by first | assumption | exact Nat.eq_of_beq_eq_true rfl | (simp only [AV.cells, List.length_map]; first | assumption | omega)) | (simp only [List.take_succ_cons, List.take_zero, List.drop_succ_cons, List.drop_zero]; rfl) | rfl)) rfl rfl ⟨rfl, trivial⟩ ?_)
  (refine r_callV (fun n => 11 + 1000 * n) (hG) rfl rfl Try.func25 rfl rfl (by first | rfl | simp [AV.noSl, AV.noSlL, AObj.noSl, PV.isV, bs_noSl]) (by first | rfl | simp [AV.noSl, AV.noSlL, AObj.noSl, PV.isV, bs_noSl]) rfl rfl rfl (by first | exact trivial | exact ⟨rfl, trivial⟩ | exact ⟨rfl, rfl, trivial⟩) rfl rfl rfl ?_)
  (refine r_pure (a_move (r := .tup _)) rfl rfl ?_)
  (refine r_pure (a_extract rfl) rfl rfl ?_)
  (refine r_pure (a_extract rfl) rfl rfl ?_)
  (refine r_pure (a_assign (r := .p _)) rfl rfl ?_)
  (refine r_pure (a_assign (r := .p _)) rfl rfl ?_)
  refine arun_nil ?_
  refine awp_seq ?_
  refine awp_text (by kernel_rfl) ?_
  (refine r_pure (a_move (r := .p _)) rfl rfl ?_)
  (refine r_pure a_neqT rfl rfl ?_)
  refine arun_nil ?_
  refine thn_n ?_
  refine awp_cond _ rfl (fun h => ?_) (fun h => ?_)
  · cases h
  refine awp_reO (reo_fzV (cs := [.v (.int .u32 n.a), .v (.int .i64 n.n)]) 3 rfl rfl) ?_
  refine awp_skip (awp_seq ?_)
  refine awp_text (by kernel_rfl) ?_
  (refine r_pure (a_move (r := .p _)) rfl rfl ?_)
  (refine r_pure a_makeFunc rfl rfl ?_)
  (refine r_callS (fun n => 19 + 1000 * n) (hW) rfl rfl Try.func59 rfl rfl (by first | rfl | simp [AV.okInL, AV.okIn, okInL_map]) rfl rfl rfl (by first | exact trivial | exact ⟨rfl, trivial⟩ | exact ⟨rfl, rfl, trivial⟩) rfl rfl rfl ?_)
  (refine r_pure (a_assign (r := .row _)) rfl rfl ?_)
  (refine r_pure (a_assign (r := .p _)) rfl rfl ?_)
  refine arun_nil ?_
  refine awp_ret ?_
  refine ⟨(by first | exact .inl rfl | exact .inr rfl), _, (fun _ => 19), (.tmp _ _ _ _ rfl (.tmp _ _ _ _ rfl .nil)), ?_, rfl, ?_, rfl⟩
  · exact rfl
  · exact ⟨⟨rfl, rfl⟩, trivial⟩

theorem net_of_ty {n : Nat} {ps : List PV} (h : Ty Try.prog (n + 2) 36 ps) : ∃ a b : Int, 0 ≤ a ∧ a < 4294967296 ∧ -9223372036854775808 ≤ b ∧ b ≤ 9223372036854775807 ∧ ps = [.v (.int .u32 a), .v (.int .i64 b)] := by
  obtain ⟨_, rfl, y0, _, rfl, u0, y1, _, rfl, u1, rfl⟩ := ty_struct (ts := [26, 3]) (by kernel_rfl) h
  obtain ⟨b0, rfl, v0⟩ := ty_int Try.underlying26 u0
  obtain ⟨b1, rfl, v1⟩ := ty_int Try.underlying3 u1
  have := wf_i64 v1; have := wf_u32 v0
  exact ⟨b0, b1, by omega, by omega, by omega, by omega, rfl⟩
set_option maxHeartbeats 2000000 in
theorem law_TrieGets (x0 : List PV) (ty0 : Ty Try.prog 10 22 x0) (x1 : List PV) (ty1 : Ty Try.prog 10 36 x1) : Fn Try.prog 6 [argAV false x0, argAV true x1] (.p (.v (.bool true))) [] := by
  obtain ⟨l, hok, hz, rfl⟩ := nodes_of_ty ty0
  obtain ⟨a, b, a0, a1, b0, b1, rfl⟩ := net_of_ty ty1
  have hA := get_s l hok hz ⟨a, b, noOwn, 0⟩ a0 a1
  have hB := drop_s l hok hz ⟨a, b, noOwn, 0⟩ a0 a1
  have hC := refGet_s l hok hz ⟨a, b, noOwn, 0⟩ a0 a1
  have hD := refDrop_s l hok hz ⟨a, b, noOwn, 0⟩ a0 a1
  show Fn Try.prog 6 [.p (ndsV l), .agg (netA a b)] (.p (.v (.bool true))) []
  have hlen : (dropL l ⟨a, b, noOwn, 0⟩).length ≤ 4611686018427387904 ∨ trieE l ≠ 0 := by
    by_cases h1 : trieE l = 0
    · obtain ⟨hv, hs, hl⟩ := (trieE_iff hok).1 h1
      have := TR.strip_len (fun p _ => decide (p = ND.key ⟨a, b, noOwn, 0⟩)) (treeOf l)
      rw [← hl] at this
      exact .inl (by unfold dropL; omega)
    · exact .inr h1
  have hgt : trieE l ≠ 0 → getE l ⟨a, b, noOwn, 0⟩ ≠ 0 := fun h => by unfold getE; rw [if_pos h]; exact h
  generalize dropL l ⟨a, b, noOwn, 0⟩ = u at *
  generalize getO l ⟨a, b, noOwn, 0⟩ = O at *
  by_cases h1 : getE l ⟨a, b, noOwn, 0⟩ ≠ 0
  · obtain ⟨e1, e2⟩ := nRes_bad h1 u
    rw [e1, e2] at hB hD
    generalize getE l ⟨a, b, noOwn, 0⟩ = e at *
    have hS := sameNodesNil_s
    refine fn_intro Try.func6 rfl (Nat.le_of_ble_eq_true rfl) fun w0 A => ?_
    refine awp_seq ?_
    refine awp_text (by kernel_rfl) ?_
    (refine r_run (a_box (X := .agg _) 3 rfl) rfl rfl ⟨rfl, trivial⟩ ?_)
    (refine r_pure (a_assign (r := .p _)) rfl rfl ?_)
    refine arun_nil ?_
    refine awp_seq ?_
    refine awp_text (by kernel_rfl) ?_
    (refine r_pure (a_move (r := .p _)) rfl rfl ?_)
    (refine r_run (a_loadN Try.underlying36 rfl sz36 (by first | exact Nat.le_of_ble_eq_true rfl | omega | (simp only [AV.cells, List.length_map]; omega)) (by first | exact take_all (by first | assumption | exact Nat.eq_of_beq_eq_true rfl | (simp only [AV.cells, List.length_map]; first | assumption | omega)) | (simp only [List.take_succ_cons, List.take_zero, List.drop_succ_cons, List.drop_zero]; rfl) | rfl)) rfl rfl ⟨rfl, trivial⟩ ?_)
    (refine r_callV (fun n => 16 + 1000 * n) (hA) rfl rfl Try.func23 rfl rfl (by first | rfl | simp [AV.noSl, AV.noSlL, AObj.noSl, PV.isV, bs_noSl]) (by first | rfl | simp [AV.noSl, AV.noSlL, AObj.noSl, PV.isV, bs_noSl]) rfl rfl rfl (by first | exact trivial | exact ⟨rfl, trivial⟩ | exact ⟨rfl, rfl, trivial⟩) rfl rfl rfl ?_)
    (refine r_pure (a_move (r := .tup _)) rfl rfl ?_)
    (refine r_pure (a_extract rfl) rfl rfl ?_)
    (refine r_pure (a_extract rfl) rfl rfl ?_)
    (refine r_pure (a_assign (r := .p _)) rfl rfl ?_)
    (refine r_pure (a_assign (r := .p _)) rfl rfl ?_)
    refine arun_nil ?_
    refine awp_seq ?_
    refine awp_text (by kernel_rfl) ?_
    (refine r_pure (a_move (r := .p _)) rfl rfl ?_)
    (refine r_run (a_loadN Try.underlying36 rfl sz36 (by first | exact Nat.le_of_ble_eq_true rfl | omega | (simp only [AV.cells, List.length_map]; omega)) (by first | exact take_all (by first | assumption | exact Nat.eq_of_beq_eq_true rfl | (simp only [AV.cells, List.length_map]; first | assumption | omega)) | (simp only [List.take_succ_cons, List.take_zero, List.drop_succ_cons, List.drop_zero]; rfl) | rfl)) rfl rfl ⟨rfl, trivial⟩ ?_)
    (refine r_callV (fun n => 22 + 1000 * n) (hB) rfl rfl Try.func24 rfl rfl (by first | rfl | simp [AV.noSl, AV.noSlL, AObj.noSl, PV.isV, bs_noSl]) (by first | rfl | simp [AV.noSl, AV.noSlL, AObj.noSl, PV.isV, bs_noSl]) rfl rfl rfl (by first | exact trivial | exact ⟨rfl, trivial⟩ | exact ⟨rfl, rfl, trivial⟩) rfl rfl rfl ?_)
    (refine r_pure (a_move (r := .tup _)) rfl rfl ?_)
    (refine r_pure (a_extract rfl) rfl rfl ?_)
    (refine r_pure (a_extract rfl) rfl rfl ?_)
    (refine r_pure (a_assign (r := .p _)) rfl rfl ?_)
    (refine r_pure (a_assign (r := .p _)) rfl rfl ?_)
    refine arun_nil ?_
    refine awp_seq ?_
    refine awp_text (by kernel_rfl) ?_
    (refine r_pure (a_move (r := .p _)) rfl rfl ?_)
    (refine r_run (a_loadN Try.underlying36 rfl sz36 (by first | exact Nat.le_of_ble_eq_true rfl | omega | (simp only [AV.cells, List.length_map]; omega)) (by first | exact take_all (by first | assumption | exact Nat.eq_of_beq_eq_true rfl | (simp only [AV.cells, List.length_map]; first | assumption | omega)) | (simp only [List.take_succ_cons, List.take_zero, List.drop_succ_cons, List.drop_zero]; rfl) | rfl)) rfl rfl ⟨rfl, trivial⟩ ?_)
    (refine r_callV (fun n => 28 + 1000 * n) (hC) rfl rfl Try.func25 rfl rfl (by first | rfl | simp [AV.noSl, AV.noSlL, AObj.noSl, PV.isV, bs_noSl]) (by first | rfl | simp [AV.noSl, AV.noSlL, AObj.noSl, PV.isV, bs_noSl]) rfl rfl rfl (by first | exact trivial | exact ⟨rfl, trivial⟩ | exact ⟨rfl, rfl, trivial⟩) rfl rfl rfl ?_)
    (refine r_pure (a_move (r := .tup _)) rfl rfl ?_)
    (refine r_pure (a_extract rfl) rfl rfl ?_)
    (refine r_pure (a_extract rfl) rfl rfl ?_)
    (refine r_pure (a_assign (r := .p _)) rfl rfl ?_)
    (refine r_pure (a_assign (r := .p _)) rfl rfl ?_)
    refine arun_nil ?_
    refine awp_seq ?_
    refine awp_text (by kernel_rfl) ?_
    (refine r_pure (a_move (r := .p _)) rfl rfl ?_)
    (refine r_run (a_loadN Try.underlying36 rfl sz36 (by first | exact Nat.le_of_ble_eq_true rfl | omega | (simp only [AV.cells, List.length_map]; omega)) (by first | exact take_all (by first | assumption | exact Nat.eq_of_beq_eq_true rfl | (simp only [AV.cells, List.length_map]; first | assumption | omega)) | (simp only [List.take_succ_cons, List.take_zero, List.drop_succ_cons, List.drop_zero]; rfl) | rfl)) rfl rfl ⟨rfl, trivial⟩ ?_)
    (refine r_callV (fun n => 34 + 1000 * n) (hD) rfl rfl Try.func26 rfl rfl (by first | rfl | simp [AV.noSl, AV.noSlL, AObj.noSl, PV.isV, bs_noSl]) (by first | rfl | simp [AV.noSl, AV.noSlL, AObj.noSl, PV.isV, bs_noSl]) rfl rfl rfl (by first | exact trivial | exact ⟨rfl, trivial⟩ | exact ⟨rfl, rfl, trivial⟩) rfl rfl rfl ?_)
    (refine r_pure (a_move (r := .tup _)) rfl rfl ?_)
    (refine r_pure (a_extract rfl) rfl rfl ?_)
    (refine r_pure (a_extract rfl) rfl rfl ?_)
    (refine r_pure (a_assign (r := .p _)) rfl rfl ?_)
    (refine r_pure (a_assign (r := .p _)) rfl rfl ?_)
    refine arun_nil ?_
    refine awp_seq ?_
    refine awp_text (by kernel_rfl) ?_
    (refine r_pure (a_move (r := .p _)) rfl rfl ?_)
    (refine r_pure (a_move (r := .p _)) rfl rfl ?_)
    (refine r_pure a_seqlT rfl rfl ?_)
    (refine r_pure (a_move (r := .p _)) rfl rfl ?_)
    (refine r_pure (a_move (r := .p _)) rfl rfl ?_)
    (refine r_pure (a_move (r := .p _)) rfl rfl ?_)
    (refine r_pure a_eqlT rfl rfl ?_)
    (refine r_pure a_pickT rfl rfl ?_)
    (refine r_pure (a_move (r := .p _)) rfl rfl ?_)
    (refine r_pure (a_move (r := .p _)) rfl rfl ?_)
    (refine r_pure (a_move (r := .p _)) rfl rfl ?_)
    (refine r_callV (fun n => 48 + 1000 * n) (hS) rfl rfl Try.func20 rfl rfl (by first | rfl | simp [AV.noSl, AV.noSlL, AObj.noSl, PV.isV, bs_noSl]) (by first | rfl | simp [AV.noSl, AV.noSlL, AObj.noSl, PV.isV, bs_noSl]) rfl rfl rfl (by first | exact trivial | exact ⟨rfl, trivial⟩ | exact ⟨rfl, rfl, trivial⟩) rfl rfl rfl ?_)
    (refine r_pure a_pickT rfl rfl ?_)
    (refine r_pure (a_move (r := .p _)) rfl rfl ?_)
    (refine r_pure (a_move (r := .p _)) rfl rfl ?_)
    (refine r_pure (a_move (r := .p _)) rfl rfl ?_)
    (refine r_pure a_eqlT rfl rfl ?_)
    (refine r_pure a_pickT rfl rfl ?_)
    (refine r_pure (a_assign (r := .p _)) rfl rfl ?_)
    refine arun_nil ?_
    refine awp_ret ?_
    refine ⟨(by first | exact .inl rfl | exact .inr rfl), _, (fun o => o), (.tmp _ _ _ _ rfl .nil), ?_, rfl, ?_, rfl⟩
    · exact rfl
    · exact trivial
  replace h1 : getE l ⟨a, b, noOwn, 0⟩ = 0 := Decidable.not_not.1 h1
  rw [h1] at hA hB hC hD
  obtain ⟨e1, e2⟩ := nRes_good u
  rw [e1, e2] at hB hD
  have hS := sameNodes_s u (hlen.resolve_right fun h => hgt h h1)
  have hiv := nds_isV u
  unfold ndsV at hS
  generalize nds u = cs at *
  generalize u.length = m at *
  refine fn_intro Try.func6 rfl (Nat.le_of_ble_eq_true rfl) fun w0 A => ?_
  refine awp_seq ?_
  refine awp_text (by kernel_rfl) ?_
  (refine r_run (a_box (X := .agg _) 3 rfl) rfl rfl ⟨rfl, trivial⟩ ?_)
  (refine r_pure (a_assign (r := .p _)) rfl rfl ?_)
  refine arun_nil ?_
  refine awp_seq ?_
  refine awp_text (by kernel_rfl) ?_
  (refine r_pure (a_move (r := .p _)) rfl rfl ?_)
  (refine r_run (a_loadN Try.underlying36 rfl sz36 (by first | exact Nat.le_of_ble_eq_true rfl | omega | (simp only [AV.cells, List.length_map]; omega)) (by first | exact take_all (by first | assumption | exact Nat.eq_of_beq_eq_true rfl | (simp only [AV.cells, List.length_map]; first | assumption | omega)) | (simp only [List.take_succ_cons, List.take_zero, List.drop_succ_cons, List.drop_zero]; rfl) | rfl)) rfl rfl ⟨rfl, trivial⟩ ?_)
  (refine r_callV (fun n => 16 + 1000 * n) (hA) rfl rfl Try.func23 rfl rfl (by first | rfl | simp [AV.noSl, AV.noSlL, AObj.noSl, PV.isV, bs_noSl]) (by first | rfl | simp [AV.noSl, AV.noSlL, AObj.noSl, PV.isV, bs_noSl]) rfl rfl rfl (by first | exact trivial | exact ⟨rfl, trivial⟩ | exact ⟨rfl, rfl, trivial⟩) rfl rfl rfl ?_)
  (refine r_pure (a_move (r := .tup _)) rfl rfl ?_)
  (refine r_pure (a_extract rfl) rfl rfl ?_)
  (refine r_pure (a_extract rfl) rfl rfl ?_)
  (refine r_pure (a_assign (r := .p _)) rfl rfl ?_)
  (refine r_pure (a_assign (r := .p _)) rfl rfl ?_)
  refine arun_nil ?_
  refine awp_seq ?_
  refine awp_text (by kernel_rfl) ?_
  (refine r_pure (a_move (r := .p _)) rfl rfl ?_)
  (refine r_run (a_loadN Try.underlying36 rfl sz36 (by first | exact Nat.le_of_ble_eq_true rfl | omega | (simp only [AV.cells, List.length_map]; omega)) (by first | exact take_all (by first | assumption | exact Nat.eq_of_beq_eq_true rfl | (simp only [AV.cells, List.length_map]; first | assumption | omega)) | (simp only [List.take_succ_cons, List.take_zero, List.drop_succ_cons, List.drop_zero]; rfl) | rfl)) rfl rfl ⟨rfl, trivial⟩ ?_)
  (refine r_callS (fun n => 22 + 1000 * n) (hB) rfl rfl Try.func24 rfl rfl (by first | rfl | simp [AV.okInL, AV.okIn, okInL_map]) rfl rfl rfl (by first | exact trivial | exact ⟨rfl, trivial⟩ | exact ⟨rfl, rfl, trivial⟩) rfl rfl rfl ?_)
  (refine r_pure (a_move (r := .tup _)) rfl rfl ?_)
  (refine r_pure (a_extract rfl) rfl rfl ?_)
  (refine r_pure (a_extract rfl) rfl rfl ?_)
  (refine r_pure (a_assign (r := .row _)) rfl rfl ?_)
  (refine r_pure (a_assign (r := .p _)) rfl rfl ?_)
  refine arun_nil ?_
  refine awp_seq ?_
  refine awp_text (by kernel_rfl) ?_
  (refine r_pure (a_move (r := .p _)) rfl rfl ?_)
  (refine r_run (a_loadN Try.underlying36 rfl sz36 (by first | exact Nat.le_of_ble_eq_true rfl | omega | (simp only [AV.cells, List.length_map]; omega)) (by first | exact take_all (by first | assumption | exact Nat.eq_of_beq_eq_true rfl | (simp only [AV.cells, List.length_map]; first | assumption | omega)) | (simp only [List.take_succ_cons, List.take_zero, List.drop_succ_cons, List.drop_zero]; rfl) | rfl)) rfl rfl ⟨rfl, trivial⟩ ?_)
  (refine r_callV (fun n => 28 + 1000 * n) (hC) rfl rfl Try.func25 rfl rfl (by first | rfl | simp [AV.noSl, AV.noSlL, AObj.noSl, PV.isV, bs_noSl]) (by first | rfl | simp [AV.noSl, AV.noSlL, AObj.noSl, PV.isV, bs_noSl]) rfl rfl rfl (by first | exact trivial | exact ⟨rfl, trivial⟩ | exact ⟨rfl, rfl, trivial⟩) rfl rfl rfl ?_)
  (refine r_pure (a_move (r := .tup _)) rfl rfl ?_)
  (refine r_pure (a_extract rfl) rfl rfl ?_)
  (refine r_pure (a_extract rfl) rfl rfl ?_)
  (refine r_pure (a_assign (r := .p _)) rfl rfl ?_)
  (refine r_pure (a_assign (r := .p _)) rfl rfl ?_)
  refine arun_nil ?_
  refine awp_seq ?_
  refine awp_text (by kernel_rfl) ?_
  (refine r_pure (a_move (r := .p _)) rfl rfl ?_)
  (refine r_run (a_loadN Try.underlying36 rfl sz36 (by first | exact Nat.le_of_ble_eq_true rfl | omega | (simp only [AV.cells, List.length_map]; omega)) (by first | exact take_all (by first | assumption | exact Nat.eq_of_beq_eq_true rfl | (simp only [AV.cells, List.length_map]; first | assumption | omega)) | (simp only [List.take_succ_cons, List.take_zero, List.drop_succ_cons, List.drop_zero]; rfl) | rfl)) rfl rfl ⟨rfl, trivial⟩ ?_)
  (refine r_callS (fun n => 34 + 1000 * n) (hD) rfl rfl Try.func26 rfl rfl (by first | rfl | simp [AV.okInL, AV.okIn, okInL_map]) rfl rfl rfl (by first | exact trivial | exact ⟨rfl, trivial⟩ | exact ⟨rfl, rfl, trivial⟩) rfl rfl rfl ?_)
  (refine r_pure (a_move (r := .tup _)) rfl rfl ?_)
  (refine r_pure (a_extract rfl) rfl rfl ?_)
  (refine r_pure (a_extract rfl) rfl rfl ?_)
  (refine r_pure (a_assign (r := .row _)) rfl rfl ?_)
  (refine r_pure (a_assign (r := .p _)) rfl rfl ?_)
  refine arun_nil ?_
  refine awp_seq ?_
  refine awp_text (by kernel_rfl) ?_
  (refine r_pure (a_move (r := .p _)) rfl rfl ?_)
  (refine r_pure (a_move (r := .p _)) rfl rfl ?_)
  (refine r_pure a_seqlT rfl rfl ?_)
  (refine r_pure (a_move (r := .p _)) rfl rfl ?_)
  (refine r_pure (a_move (r := .p _)) rfl rfl ?_)
  (refine r_pure (a_move (r := .p _)) rfl rfl ?_)
  (refine r_pure a_eqlT rfl rfl ?_)
  (refine r_pure a_pickT rfl rfl ?_)
  (refine r_pure (a_move (r := .p _)) rfl rfl ?_)
  (refine r_pure (a_move (r := .row _)) rfl rfl ?_)
  (refine r_pure (a_move (r := .row _)) rfl rfl ?_)
  (refine r_callV (fun n => 48 + 1000 * n) (hS) rfl rfl Try.func20 rfl rfl (by first | rfl | simp [AV.noSl, AV.noSlL, AObj.noSl, PV.isV, bs_noSl]) (by first | rfl | simp [AV.noSl, AV.noSlL, AObj.noSl, PV.isV, bs_noSl]) rfl rfl rfl (by first | exact trivial | exact ⟨rfl, trivial⟩ | exact ⟨rfl, rfl, trivial⟩) rfl rfl rfl ?_)
  (refine r_pure a_pickT rfl rfl ?_)
  (refine r_pure (a_move (r := .p _)) rfl rfl ?_)
  (refine r_pure (a_move (r := .p _)) rfl rfl ?_)
  (refine r_pure (a_move (r := .p _)) rfl rfl ?_)
  (refine r_pure a_eqlT rfl rfl ?_)
  (refine r_pure a_pickT rfl rfl ?_)
  (refine r_pure (a_assign (r := .p _)) rfl rfl ?_)
  refine arun_nil ?_
  refine awp_ret ?_
  refine ⟨(by first | exact .inl rfl | exact .inr rfl), _, (fun o => o), (.tmp _ _ _ _ rfl .nil), ?_, rfl, ?_, rfl⟩
  · exact rfl
  · exact trivial
end Go.Proofs.Ytckkmfoccefcfaa
