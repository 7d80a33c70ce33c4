/- shake.Greets, shake.Answer, their references, over data. -/
import Derived.Test.YtmdkfhmmhiofbaaSk4
import Derived.Test.YtmdkfhmmhiofbaaBw
--%T
namespace Go.Proofs.Ytmdkfhmmhiofbaa
open Go.RowKit Go.Sort
set_option linter.unusedVariables false
set_option linter.unusedSimpArgs false
set_option maxRecDepth 100000

theorem wE_n1 {m : MS} (h : wE m = 0) (ht : m.t = 1) : m.n = 32 := by
  unfold wE at h
  rw [ht] at h
  by_cases h1 : (ofS 1).ok = false
  · rw [if_pos h1] at h; omega
  rw [if_neg h1] at h
  by_cases h2 : formB (ofS 1) m = true
  · rw [if_pos h2] at h; omega
  rw [if_neg h2] at h
  by_cases h3 : rngB m = true
  · rw [if_pos h3] at h; omega
  rw [if_neg h3] at h
  by_cases h4 : sizB (ofS 1) m = true
  · rw [if_pos h4] at h; omega
  have e1 : (ofS 1).lo = 32 := rfl
  have e2 : (ofS 1).hi = 32 := rfl
  unfold sizB at h4
  rw [e1, e2] at h4
  simp at h4
  omega
def greN (m : MS) : ByteArray := hexS (m.xs.take 8)
def greE (a b sh : ByteArray) (m : MS) : Int :=
  if wE m ≠ 0 then wE m else if m.t ≠ 1 then 2 else if helE b a sh (greN m) m.s ≠ 0 then helE b a sh (greN m) m.s
  else if helB b a sh (greN m) m.s ≠ m.xs then 9 else 0
theorem helB_B {a b sh nc : ByteArray} {mine : Int} (h : helE a b sh nc mine = 0) : isB (helB a b sh nc mine) := by
  unfold helE at h
  split at h
  · exact absurd h (by assumption)
  split at h
  · exact absurd h (by assumption)
  rename_i h1 h2
  have h2 : noE nc = 0 := Decidable.not_not.1 h2
  exact isB_app (isB_app (noE_B h2) (markD_B _)) (helT_B _ _ _ _ _)
set_option maxHeartbeats 4000000 in
theorem greets_s (a b sh : ByteArray) (m : MS) (hsh : sh.size ≤ 140737488351232) (hx : m.xs.length = m.n) (hB : isB m.xs) (hm : m.n ≤ 140737488351232) :
    Fn Try.prog 4 [.p (.v (.string a)), .p (.v (.string b)), .p (.v (.string sh)), .agg m.cells] (sRes (greE a b sh m) (greN m)) [] := by
  obtain ⟨t, s, r, c, n, xs⟩ := m
  have hC := wcheck_s ⟨t, s, r, c, n, xs⟩ (by show n ≤ _; have : n ≤ 140737488351232 := hm; omega)
  have hn1 := wE_n1 (m := ⟨t, s, r, c, n, xs⟩)
  obtain ⟨E, hE⟩ : ∃ E, greE a b sh ⟨t, s, r, c, n, xs⟩ = E := ⟨_, rfl⟩
  rw [hE]
  unfold greE at hE
  unfold greN at hE ⊢
  dsimp only at hE hx hB hm hn1 ⊢
  have hcs : (MS.mk t s r c n xs).cells = [.p (.v (.int .i64 t)), .p (.v (.int .i64 s)), .p (.v (.int .i64 r)), .p (.v (.int .i64 c)), .p (.sl n 1 (bs xs))] := rfl
  rw [hcs] at hC ⊢
  clear hcs
  generalize wE (MS.mk t s r c n xs) = wm at *
  refine fn_intro Try.func4 rfl (Nat.le_of_ble_eq_true rfl) fun w0 A => ?_
  refine awp_seq ?_
  refine awp_text (by kernel_rfl) ?_
  (refine r_run (a_box (X := .agg _) 7 rfl) rfl rfl ⟨rfl, trivial⟩ ?_)
  (refine r_pure (a_assign (r := .p _)) rfl rfl ?_)
  (refine r_pure (a_assign (r := .p _)) rfl rfl ?_)
  refine arun_nil ?_
  refine awp_seq (awp_seq ?_)
  refine awp_text (by kernel_rfl) ?_
  (refine r_run (a_loadN Try.underlying24 rfl sz24 (by first | exact Nat.le_of_ble_eq_true rfl | omega | (simp only [AV.cells, List.length_map]; omega)) (by first | exact take_all (by first | assumption | exact Nat.eq_of_beq_eq_true rfl | (simp only [AV.cells, List.length_map]; first | assumption | omega)) | (simp only [List.take_succ_cons, List.take_zero, List.drop_succ_cons, List.drop_zero]; rfl) | rfl)) rfl rfl ⟨rfl, trivial⟩ ?_)
  (refine r_callV (fun n => 14 + 1000 * n) (hC) rfl rfl Try.func9 rfl rfl (by first | rfl | simp [AV.noSl, AV.noSlL, AObj.noSl, PV.isV, bs_noSl]) (by first | rfl | simp [AV.noSl, AV.noSlL, AObj.noSl, PV.isV, bs_noSl]) rfl rfl rfl (by first | exact trivial | exact ⟨rfl, trivial⟩ | exact ⟨rfl, rfl, trivial⟩) rfl rfl rfl ?_)
  (refine r_pure (a_assign (r := .p _)) rfl rfl ?_)
  refine arun_nil ?_
  refine awp_seq ?_
  refine awp_text (by kernel_rfl) ?_
  (refine r_pure (a_move (r := .p _)) rfl rfl ?_)
  (refine r_pure a_neq rfl rfl ?_)
  refine arun_nil ?_
  refine thn_n ?_
  refine awp_cond _ rfl (fun h => ?_) (fun h => ?_)
  · have h1 : wm ≠ 0 := by simpa using h
    rw [if_pos h1] at hE
    subst hE
    rw [sRes_bad rfl h1]
    refine awp_seq ?_
    refine awp_text (by kernel_rfl) ?_
    (refine r_pure (a_move (r := .p _)) rfl rfl ?_)
    (refine r_pure (a_assign (r := .p _)) rfl rfl ?_)
    (refine r_pure (a_assign (r := .p _)) rfl rfl ?_)
    refine arun_nil ?_
    refine awp_ret (thn_r ?_)
    refine ⟨(by first | exact .inl rfl | exact .inr rfl), _, (fun o => o), (.tmp _ _ _ _ rfl (.tmp _ _ _ _ rfl .nil)), ?_, rfl, ?_, rfl⟩
    · exact rfl
    · exact trivial
  have h1 : wm = 0 := by simpa using h
  clear h
  rw [if_neg (by simp [h1])] at hE
  refine awp_skip (awp_seq (awp_seq ?_))
  refine awp_text (by kernel_rfl) ?_
  (refine r_pure (b_fieldAddr fi24_0 rfl) rfl rfl ?_)
  (refine r_run (a_load1 Try.underlying3 rfl (by first | rfl | assumption)) rfl rfl ⟨rfl, trivial⟩ ?_)
  (refine r_pure a_neq rfl rfl ?_)
  refine arun_nil ?_
  refine thn_n ?_
  refine awp_cond _ rfl (fun h => ?_) (fun h => ?_)
  · have h2 : t ≠ 1 := by simpa using h
    rw [if_pos h2] at hE
    subst hE
    rw [sRes_bad rfl (by decide)]
    refine awp_seq ?_
    refine awp_text (by kernel_rfl) ?_
    (refine r_pure (a_assign (r := .p _)) rfl rfl ?_)
    (refine r_pure (a_assign (r := .p _)) rfl rfl ?_)
    refine arun_nil ?_
    refine awp_ret (thn_r ?_)
    refine ⟨(by first | exact .inl rfl | exact .inr rfl), _, (fun o => o), (.tmp _ _ _ _ rfl (.tmp _ _ _ _ rfl .nil)), ?_, rfl, ?_, rfl⟩
    · exact rfl
    · exact trivial
  have h2 : t = 1 := by simpa using h
  clear h
  rw [if_neg (by simp [h2])] at hE
  obtain rfl := hn1 h1 h2
  clear hn1
  have hx8 : (xs.take 8).length = 8 := by rw [List.length_take, hx]; rfl
  have hB8 : isB (xs.take 8) := fun x hx => hB x (List.mem_of_mem_take hx)
  have hm8 : ((bs xs).drop (0 * 1)).take (8 * 1) = bs (xs.take 8) := bs_mid xs 0 8
  have hTx := text_s 8 (xs.take 8) hx8 hB8 (by omega)
  have hH := hello_s b a sh (hexS (xs.take 8)) s hsh
  have hHB := @helB_B b a sh (hexS (xs.take 8)) s
  have hMc : (helM b a sh (hexS (xs.take 8)) s).cells = [.p (.v (.int .i64 1)), .p (.v (.int .i64 s)), .p (.v (.int .i64 0)), .p (.v (.int .i64 0)), .p (.sl 32 1 (bs (helB b a sh (hexS (xs.take 8)) s)))] := rfl
  unfold mRes at hH
  rw [hMc] at hH
  clear hMc
  generalize helE b a sh (hexS (xs.take 8)) s = he at *
  generalize helB b a sh (hexS (xs.take 8)) s = HB at *
  generalize hexS (xs.take 8) = N at *
  by_cases h3 : he ≠ 0
  · rw [if_neg h3] at hH
    rw [if_pos h3] at hE
    subst hE
    rw [sRes_bad rfl h3]
    refine awp_skip (awp_seq ?_)
    refine awp_draw 4 (by kernel_rfl) ?_
    (refine r_pure (a_move (r := .p _)) rfl rfl ?_)
    (refine r_pure (a_move (r := .p _)) rfl rfl ?_)
    (refine r_pure (a_move (r := .p _)) rfl rfl ?_)
    (refine r_pure (b_fieldAddr fi24_1 rfl) rfl rfl ?_)
    (refine r_run (a_load1 Try.underlying3 rfl (by first | rfl | assumption)) rfl rfl ⟨rfl, trivial⟩ ?_)
    (refine r_pure (b_fieldAddr fi24_4 rfl) rfl rfl ?_)
    (refine r_run (a_load1 Try.underlying22 rfl (by first | rfl | assumption)) rfl rfl ⟨rfl, trivial⟩ ?_)
    (refine r_pure (a_sliceS (L := none) (H := (some (_, _))) Try.underlying22 sz5 rfl ⟨by omega, (show _ = 8 from rfl)⟩ (by omega) (by omega) (show _ = 8 from rfl) hm8) rfl rfl ?_)
    (refine r_callS (fun n => 30 + 1000 * n) (hTx) rfl rfl Try.func11 rfl rfl (by first | rfl | simp [AV.okInL, AV.okIn, okInL_map]) rfl rfl rfl (by first | exact trivial | exact ⟨rfl, trivial⟩ | exact ⟨rfl, rfl, trivial⟩) rfl rfl rfl ?_)
    (refine r_callS (fun n => 31 + 1000 * n) (hH) rfl rfl Try.func10 rfl rfl (by first | rfl | simp [AV.okInL, AV.okIn, okInL_map]) rfl rfl rfl (by first | exact trivial | exact ⟨rfl, trivial⟩ | exact ⟨rfl, rfl, trivial⟩) rfl rfl rfl ?_)
    (refine r_pure (a_move (r := .tup _)) rfl rfl ?_)
    (refine r_pure (a_extract rfl) rfl rfl ?_)
    (refine r_pure (a_extract rfl) rfl rfl ?_)
    (refine r_run (a_alloc 11 zr24 rfl) rfl rfl ⟨rfl, trivial⟩ ?_)
    (refine r_run (a_storeAll (Y := .agg _) sz24 rfl (by first | exact Nat.eq_of_beq_eq_true rfl | (simp only [AV.cells, List.length_map]; first | assumption | omega)) (Nat.eq_of_beq_eq_true rfl)) rfl rfl ⟨rfl, trivial⟩ ?_)
    (refine r_pure (a_assign (r := .p _)) rfl rfl ?_)
    refine arun_nil ⟨by kernel_rfl, ?_⟩
    refine awp_seq (awp_seq ?_)
    refine awp_text (by kernel_rfl) ?_
    (refine r_pure (a_move (r := .p _)) rfl rfl ?_)
    (refine r_pure a_neq rfl rfl ?_)
    refine arun_nil ?_
    refine thn_n ?_
    refine awp_cond _ rfl (fun h => ?_) (fun h => ?_)
    · refine awp_seq ?_
      refine awp_text (by kernel_rfl) ?_
      (refine r_pure (a_move (r := .p _)) rfl rfl ?_)
      (refine r_pure (a_assign (r := .p _)) rfl rfl ?_)
      (refine r_pure (a_assign (r := .p _)) rfl rfl ?_)
      refine arun_nil ?_
      refine awp_ret (thn_r ?_)
      refine ⟨(by first | exact .inl rfl | exact .inr rfl), _, (fun o => o), (.tmp _ _ _ _ rfl (.tmp _ _ _ _ rfl .nil)), ?_, rfl, ?_, rfl⟩
      · exact rfl
      · exact trivial
    · exact absurd (by simpa using h) h3
  rw [if_neg h3] at hE
  replace h3 : he = 0 := Decidable.not_not.1 h3
  rw [if_pos h3] at hH
  have hEq := bytesEqual_s 32 32 HB xs (hHB h3) hB
  clear hHB
  refine awp_skip (awp_seq ?_)
  refine awp_draw 4 (by kernel_rfl) ?_
  (refine r_pure (a_move (r := .p _)) rfl rfl ?_)
  (refine r_pure (a_move (r := .p _)) rfl rfl ?_)
  (refine r_pure (a_move (r := .p _)) rfl rfl ?_)
  (refine r_pure (b_fieldAddr fi24_1 rfl) rfl rfl ?_)
  (refine r_run (a_load1 Try.underlying3 rfl (by first | rfl | assumption)) rfl rfl ⟨rfl, trivial⟩ ?_)
  (refine r_pure (b_fieldAddr fi24_4 rfl) rfl rfl ?_)
  (refine r_run (a_load1 Try.underlying22 rfl (by first | rfl | assumption)) rfl rfl ⟨rfl, trivial⟩ ?_)
  (refine r_pure (a_sliceS (L := none) (H := (some (_, _))) Try.underlying22 sz5 rfl ⟨by omega, (show _ = 8 from rfl)⟩ (by omega) (by omega) (show _ = 8 from rfl) hm8) rfl rfl ?_)
  (refine r_callS (fun n => 30 + 1000 * n) (hTx) rfl rfl Try.func11 rfl rfl (by first | rfl | simp [AV.okInL, AV.okIn, okInL_map]) rfl rfl rfl (by first | exact trivial | exact ⟨rfl, trivial⟩ | exact ⟨rfl, rfl, trivial⟩) rfl rfl rfl ?_)
  (refine r_callS (fun n => 31 + 1000 * n) (hH) rfl rfl Try.func10 rfl rfl (by first | rfl | simp [AV.okInL, AV.okIn, okInL_map]) rfl rfl rfl (by first | exact trivial | exact ⟨rfl, trivial⟩ | exact ⟨rfl, rfl, trivial⟩) rfl rfl rfl ?_)
  (refine r_pure (a_move (r := .tup _)) rfl rfl ?_)
  (refine r_pure (a_extract rfl) rfl rfl ?_)
  (refine r_pure (a_extract rfl) rfl rfl ?_)
  (refine r_run (a_alloc 11 zr24 rfl) rfl rfl ⟨rfl, trivial⟩ ?_)
  (refine r_run (a_storeAll (Y := .agg _) sz24 rfl (by first | exact Nat.eq_of_beq_eq_true rfl | (simp only [AV.cells, List.length_map]; first | assumption | omega)) (Nat.eq_of_beq_eq_true rfl)) rfl rfl ⟨rfl, trivial⟩ ?_)
  (refine r_pure (a_assign (r := .p _)) rfl rfl ?_)
  refine arun_nil ⟨by kernel_rfl, ?_⟩
  refine awp_seq (awp_seq ?_)
  refine awp_text (by kernel_rfl) ?_
  (refine r_pure (a_move (r := .p _)) rfl rfl ?_)
  (refine r_pure a_neqT rfl rfl ?_)
  refine arun_nil ?_
  refine thn_n ?_
  refine awp_cond _ rfl (fun h => ?_) (fun h => ?_)
  · cases h
  refine awp_skip (awp_seq (awp_seq ?_))
  refine awp_text (by kernel_rfl) ?_
  (refine r_pure (b_fieldAddr fi24_4 rfl) rfl rfl ?_)
  (refine r_run (a_load1 Try.underlying22 rfl (by first | rfl | assumption)) rfl rfl ⟨rfl, trivial⟩ ?_)
  (refine r_pure (b_fieldAddr fi24_4 rfl) rfl rfl ?_)
  (refine r_run (a_load1 Try.underlying22 rfl (by first | rfl | assumption)) rfl rfl ⟨rfl, trivial⟩ ?_)
  (refine r_callS (fun n => 41 + 1000 * n) (hEq) rfl rfl Try.func12 rfl rfl (by first | rfl | simp [AV.okInL, AV.okIn, okInL_map]) rfl rfl rfl (by first | exact trivial | exact ⟨rfl, trivial⟩ | exact ⟨rfl, rfl, trivial⟩) rfl rfl rfl ?_)
  (refine r_pure a_not rfl rfl ?_)
  refine arun_nil ?_
  refine thn_n ?_
  refine awp_cond _ rfl (fun h => ?_) (fun h => ?_)
  · have h4 : HB ≠ xs := by simpa using h
    rw [if_pos h4] at hE
    subst hE
    rw [sRes_bad rfl (by decide)]
    refine awp_seq ?_
    refine awp_text (by kernel_rfl) ?_
    (refine r_pure (a_assign (r := .p _)) rfl rfl ?_)
    (refine r_pure (a_assign (r := .p _)) rfl rfl ?_)
    refine arun_nil ?_
    refine awp_ret (thn_r ?_)
    refine ⟨(by first | exact .inl rfl | exact .inr rfl), _, (fun o => o), (.tmp _ _ _ _ rfl (.tmp _ _ _ _ rfl .nil)), ?_, rfl, ?_, rfl⟩
    · exact rfl
    · exact trivial
  have h4 : HB = xs := by simpa using h
  clear h
  rw [if_neg (by simp [h4])] at hE
  subst hE
  rw [sRes_good rfl]
  refine awp_skip (awp_seq ?_)
  refine awp_text (by kernel_rfl) ?_
  (refine r_pure (b_fieldAddr fi24_4 rfl) rfl rfl ?_)
  (refine r_run (a_load1 Try.underlying22 rfl (by first | rfl | assumption)) rfl rfl ⟨rfl, trivial⟩ ?_)
  (refine r_pure (a_sliceS (L := none) (H := (some (_, _))) Try.underlying22 sz5 rfl ⟨by omega, (show _ = 8 from rfl)⟩ (by omega) (by omega) (show _ = 8 from rfl) hm8) rfl rfl ?_)
  (refine r_callS (fun n => 46 + 1000 * n) (hTx) rfl rfl Try.func11 rfl rfl (by first | rfl | simp [AV.okInL, AV.okIn, okInL_map]) rfl rfl rfl (by first | exact trivial | exact ⟨rfl, trivial⟩ | exact ⟨rfl, rfl, trivial⟩) rfl rfl rfl ?_)
  (refine r_pure (a_assign (r := .p _)) rfl rfl ?_)
  (refine r_pure (a_assign (r := .p _)) rfl rfl ?_)
  refine arun_nil ?_
  refine awp_ret ?_
  refine ⟨(by first | exact .inl rfl | exact .inr rfl), _, (fun o => o), (.tmp _ _ _ _ rfl (.tmp _ _ _ _ rfl .nil)), ?_, rfl, ?_, rfl⟩
  · exact rfl
  · exact trivial
set_option maxHeartbeats 4000000 in
theorem refGreets_s (a b sh : ByteArray) (m : MS) (hsh : sh.size ≤ 140737488351232) (hx : m.xs.length = m.n) (hB : isB m.xs) (hm : m.n ≤ 140737488351232) :
    Fn Try.prog 6 [.p (.v (.string a)), .p (.v (.string b)), .p (.v (.string sh)), .agg m.cells] (sRes (greE a b sh m) (greN m)) [] := by
  obtain ⟨t, s, r, c, n, xs⟩ := m
  have hC := refWFault_s ⟨t, s, r, c, n, xs⟩ (by show n ≤ _; have : n ≤ 140737488351232 := hm; omega)
  have hn1 := wE_n1 (m := ⟨t, s, r, c, n, xs⟩)
  have hgd := wE_good (m := ⟨t, s, r, c, n, xs⟩)
  obtain ⟨E, hE⟩ : ∃ E, greE a b sh ⟨t, s, r, c, n, xs⟩ = E := ⟨_, rfl⟩
  rw [hE]
  unfold greE at hE
  unfold greN at hE ⊢
  dsimp only at hE hx hB hm hn1 hgd ⊢
  have hcs : (MS.mk t s r c n xs).cells = [.p (.v (.int .i64 t)), .p (.v (.int .i64 s)), .p (.v (.int .i64 r)), .p (.v (.int .i64 c)), .p (.sl n 1 (bs xs))] := rfl
  rw [hcs] at hC ⊢
  clear hcs
  generalize wE (MS.mk t s r c n xs) = wm at *
  refine fn_intro Try.func6 rfl (Nat.le_of_ble_eq_true rfl) fun w0 A => ?_
  refine awp_seq ?_
  refine awp_text (by kernel_rfl) ?_
  (refine r_run (a_box (X := .agg _) 7 rfl) rfl rfl ⟨rfl, trivial⟩ ?_)
  (refine r_pure (a_assign (r := .p _)) rfl rfl ?_)
  (refine r_pure (a_assign (r := .p _)) rfl rfl ?_)
  refine arun_nil ?_
  refine awp_seq (awp_seq ?_)
  refine awp_text (by kernel_rfl) ?_
  (refine r_run (a_loadN Try.underlying24 rfl sz24 (by first | exact Nat.le_of_ble_eq_true rfl | omega | (simp only [AV.cells, List.length_map]; omega)) (by first | exact take_all (by first | assumption | exact Nat.eq_of_beq_eq_true rfl | (simp only [AV.cells, List.length_map]; first | assumption | omega)) | (simp only [List.take_succ_cons, List.take_zero, List.drop_succ_cons, List.drop_zero]; rfl) | rfl)) rfl rfl ⟨rfl, trivial⟩ ?_)
  (refine r_callV (fun n => 15 + 1000 * n) (hC) rfl rfl Try.func19 rfl rfl (by first | rfl | simp [AV.noSl, AV.noSlL, AObj.noSl, PV.isV, bs_noSl]) (by first | rfl | simp [AV.noSl, AV.noSlL, AObj.noSl, PV.isV, bs_noSl]) rfl rfl rfl (by first | exact trivial | exact ⟨rfl, trivial⟩ | exact ⟨rfl, rfl, trivial⟩) rfl rfl rfl ?_)
  (refine r_pure (a_assign (r := .p _)) rfl rfl ?_)
  refine arun_nil ?_
  refine awp_seq ?_
  refine awp_text (by kernel_rfl) ?_
  (refine r_pure (a_move (r := .p _)) rfl rfl ?_)
  (refine r_pure a_neq rfl rfl ?_)
  refine arun_nil ?_
  refine thn_n ?_
  refine awp_cond _ rfl (fun h => ?_) (fun h => ?_)
  · have h1 : wm ≠ 0 := by simpa using h
    rw [if_pos h1] at hE
    subst hE
    rw [sRes_bad rfl h1]
    refine awp_seq ?_
    refine awp_text (by kernel_rfl) ?_
    (refine r_pure (a_move (r := .p _)) rfl rfl ?_)
    (refine r_pure (a_assign (r := .p _)) rfl rfl ?_)
    (refine r_pure (a_assign (r := .p _)) rfl rfl ?_)
    refine arun_nil ?_
    refine awp_ret (thn_r ?_)
    refine ⟨(by first | exact .inl rfl | exact .inr rfl), _, (fun o => o), (.tmp _ _ _ _ rfl (.tmp _ _ _ _ rfl .nil)), ?_, rfl, ?_, rfl⟩
    · exact rfl
    · exact trivial
  have h1 : wm = 0 := by simpa using h
  clear h
  rw [if_neg (by simp [h1])] at hE
  refine awp_skip (awp_seq (awp_seq ?_))
  refine awp_text (by kernel_rfl) ?_
  (refine r_pure (b_fieldAddr fi24_0 rfl) rfl rfl ?_)
  (refine r_run (a_load1 Try.underlying3 rfl (by first | rfl | assumption)) rfl rfl ⟨rfl, trivial⟩ ?_)
  (refine r_pure a_neq rfl rfl ?_)
  refine arun_nil ?_
  refine thn_n ?_
  refine awp_cond _ rfl (fun h => ?_) (fun h => ?_)
  · have h2 : t ≠ 1 := by simpa using h
    rw [if_pos h2] at hE
    subst hE
    rw [sRes_bad rfl (by decide)]
    refine awp_seq ?_
    refine awp_text (by kernel_rfl) ?_
    (refine r_pure (a_assign (r := .p _)) rfl rfl ?_)
    (refine r_pure (a_assign (r := .p _)) rfl rfl ?_)
    refine arun_nil ?_
    refine awp_ret (thn_r ?_)
    refine ⟨(by first | exact .inl rfl | exact .inr rfl), _, (fun o => o), (.tmp _ _ _ _ rfl (.tmp _ _ _ _ rfl .nil)), ?_, rfl, ?_, rfl⟩
    · exact rfl
    · exact trivial
  have h2 : t = 1 := by simpa using h
  clear h
  rw [if_neg (by simp [h2])] at hE
  obtain rfl := hn1 h1 h2
  obtain ⟨_, _, s0, s1, _, _, _, _⟩ := hgd h1
  clear hn1 hgd
  have hx8 : (xs.take 8).length = 8 := by rw [List.length_take, hx]; rfl
  have hB8 : isB (xs.take 8) := fun x hx => hB x (List.mem_of_mem_take hx)
  have hm8 : ((bs xs).drop (0 * 1)).take (8 * 1) = bs (xs.take 8) := bs_mid xs 0 8
  have hTx := refText_s 8 (xs.take 8) hx8 hB8 (by omega)
  have hH := refHello_s b a sh (hexS (xs.take 8)) s (by omega) (by omega) hsh
  have hHB := @helB_B b a sh (hexS (xs.take 8)) s
  have hMc : (helM b a sh (hexS (xs.take 8)) s).cells = [.p (.v (.int .i64 1)), .p (.v (.int .i64 s)), .p (.v (.int .i64 0)), .p (.v (.int .i64 0)), .p (.sl 32 1 (bs (helB b a sh (hexS (xs.take 8)) s)))] := rfl
  unfold mRes at hH
  rw [hMc] at hH
  clear hMc
  generalize helE b a sh (hexS (xs.take 8)) s = he at *
  generalize helB b a sh (hexS (xs.take 8)) s = HB at *
  generalize hexS (xs.take 8) = N at *
  refine awp_skip (awp_seq ?_)
  refine awp_text (by kernel_rfl) ?_
  (refine r_pure (b_fieldAddr fi24_4 rfl) rfl rfl ?_)
  (refine r_run (a_load1 Try.underlying22 rfl (by first | rfl | assumption)) rfl rfl ⟨rfl, trivial⟩ ?_)
  (refine r_pure (a_sliceS (L := none) (H := (some (_, _))) Try.underlying22 sz5 rfl ⟨by omega, (show _ = 8 from rfl)⟩ (by omega) (by omega) (show _ = 8 from rfl) hm8) rfl rfl ?_)
  (refine r_callS (fun n => 25 + 1000 * n) (hTx) rfl rfl Try.func20 rfl rfl (by first | rfl | simp [AV.okInL, AV.okIn, okInL_map]) rfl rfl rfl (by first | exact trivial | exact ⟨rfl, trivial⟩ | exact ⟨rfl, rfl, trivial⟩) rfl rfl rfl ?_)
  (refine r_pure (a_assign (r := .p _)) rfl rfl ?_)
  refine arun_nil ?_
  by_cases h3 : he ≠ 0
  · rw [if_neg h3] at hH
    rw [if_pos h3] at hE
    subst hE
    rw [sRes_bad rfl h3]
    refine awp_seq ?_
    refine awp_text (by kernel_rfl) ?_
    (refine r_pure (a_move (r := .p _)) rfl rfl ?_)
    (refine r_pure (a_move (r := .p _)) rfl rfl ?_)
    (refine r_pure (a_move (r := .p _)) rfl rfl ?_)
    (refine r_pure (b_fieldAddr fi24_1 rfl) rfl rfl ?_)
    (refine r_run (a_load1 Try.underlying3 rfl (by first | rfl | assumption)) rfl rfl ⟨rfl, trivial⟩ ?_)
    (refine r_pure (a_move (r := .p _)) rfl rfl ?_)
    (refine r_callS (fun n => 33 + 1000 * n) (hH) rfl rfl Try.func21 rfl rfl (by first | rfl | simp [AV.okInL, AV.okIn, okInL_map]) rfl rfl rfl (by first | exact trivial | exact ⟨rfl, trivial⟩ | exact ⟨rfl, rfl, trivial⟩) rfl rfl rfl ?_)
    (refine r_pure (a_move (r := .tup _)) rfl rfl ?_)
    (refine r_pure (a_extract rfl) rfl rfl ?_)
    (refine r_pure (a_extract rfl) rfl rfl ?_)
    (refine r_run (a_alloc 12 zr24 rfl) rfl rfl ⟨rfl, trivial⟩ ?_)
    (refine r_run (a_storeAll (Y := .agg _) sz24 rfl (by first | exact Nat.eq_of_beq_eq_true rfl | (simp only [AV.cells, List.length_map]; first | assumption | omega)) (Nat.eq_of_beq_eq_true rfl)) rfl rfl ⟨rfl, trivial⟩ ?_)
    (refine r_pure (a_assign (r := .p _)) rfl rfl ?_)
    refine arun_nil ?_
    refine awp_seq (awp_seq ?_)
    refine awp_text (by kernel_rfl) ?_
    (refine r_pure (a_move (r := .p _)) rfl rfl ?_)
    (refine r_pure a_neq rfl rfl ?_)
    refine arun_nil ?_
    refine thn_n ?_
    refine awp_cond _ rfl (fun h => ?_) (fun h => ?_)
    · refine awp_seq ?_
      refine awp_text (by kernel_rfl) ?_
      (refine r_pure (a_move (r := .p _)) rfl rfl ?_)
      (refine r_pure (a_assign (r := .p _)) rfl rfl ?_)
      (refine r_pure (a_assign (r := .p _)) rfl rfl ?_)
      refine arun_nil ?_
      refine awp_ret (thn_r ?_)
      refine ⟨(by first | exact .inl rfl | exact .inr rfl), _, (fun o => o), (.tmp _ _ _ _ rfl (.tmp _ _ _ _ rfl .nil)), ?_, rfl, ?_, rfl⟩
      · exact rfl
      · exact trivial
    · exact absurd (by simpa using h) h3
  rw [if_neg h3] at hE
  replace h3 : he = 0 := Decidable.not_not.1 h3
  rw [if_pos h3] at hH
  have hne : HB ≠ xs → strOfNums HB ≠ strOfNums xs := nums_ne (hHB h3) hB
  clear hHB
  refine awp_seq ?_
  refine awp_text (by kernel_rfl) ?_
  (refine r_pure (a_move (r := .p _)) rfl rfl ?_)
  (refine r_pure (a_move (r := .p _)) rfl rfl ?_)
  (refine r_pure (a_move (r := .p _)) rfl rfl ?_)
  (refine r_pure (b_fieldAddr fi24_1 rfl) rfl rfl ?_)
  (refine r_run (a_load1 Try.underlying3 rfl (by first | rfl | assumption)) rfl rfl ⟨rfl, trivial⟩ ?_)
  (refine r_pure (a_move (r := .p _)) rfl rfl ?_)
  (refine r_callS (fun n => 33 + 1000 * n) (hH) rfl rfl Try.func21 rfl rfl (by first | rfl | simp [AV.okInL, AV.okIn, okInL_map]) rfl rfl rfl (by first | exact trivial | exact ⟨rfl, trivial⟩ | exact ⟨rfl, rfl, trivial⟩) rfl rfl rfl ?_)
  (refine r_pure (a_move (r := .tup _)) rfl rfl ?_)
  (refine r_pure (a_extract rfl) rfl rfl ?_)
  (refine r_pure (a_extract rfl) rfl rfl ?_)
  (refine r_run (a_alloc 12 zr24 rfl) rfl rfl ⟨rfl, trivial⟩ ?_)
  (refine r_run (a_storeAll (Y := .agg _) sz24 rfl (by first | exact Nat.eq_of_beq_eq_true rfl | (simp only [AV.cells, List.length_map]; first | assumption | omega)) (Nat.eq_of_beq_eq_true rfl)) rfl rfl ⟨rfl, trivial⟩ ?_)
  (refine r_pure (a_assign (r := .p _)) rfl rfl ?_)
  refine arun_nil ?_
  refine awp_seq (awp_seq ?_)
  refine awp_text (by kernel_rfl) ?_
  (refine r_pure (a_move (r := .p _)) rfl rfl ?_)
  (refine r_pure a_neqT rfl rfl ?_)
  refine arun_nil ?_
  refine thn_n ?_
  refine awp_cond _ rfl (fun h => ?_) (fun h => ?_)
  · cases h
  refine awp_skip (awp_seq (awp_seq ?_))
  refine awp_text (by kernel_rfl) ?_
  (refine r_pure (b_fieldAddr fi24_4 rfl) rfl rfl ?_)
  (refine r_run (a_load1 Try.underlying22 rfl (by first | rfl | assumption)) rfl rfl ⟨rfl, trivial⟩ ?_)
  (refine r_run (a_b2s Try.underlying22 Try.underlying5 Try.underlying9 (src_sl) rfl rfl) rfl rfl trivial ?_)
  (refine r_pure (b_fieldAddr fi24_4 rfl) rfl rfl ?_)
  (refine r_run (a_load1 Try.underlying22 rfl (by first | rfl | assumption)) rfl rfl ⟨rfl, trivial⟩ ?_)
  (refine r_run (a_b2s Try.underlying22 Try.underlying5 Try.underlying9 (src_sl) rfl rfl) rfl rfl trivial ?_)
  (refine r_pure a_sneq rfl rfl ?_)
  refine arun_nil ?_
  refine thn_n ?_
  refine awp_cond _ rfl (fun h => ?_) (fun h => ?_)
  · have h4 : HB ≠ xs := by rintro rfl; simp at h
    rw [if_pos h4] at hE
    subst hE
    rw [sRes_bad rfl (by decide)]
    refine awp_seq ?_
    refine awp_text (by kernel_rfl) ?_
    (refine r_pure (a_assign (r := .p _)) rfl rfl ?_)
    (refine r_pure (a_assign (r := .p _)) rfl rfl ?_)
    refine arun_nil ?_
    refine awp_ret (thn_r ?_)
    refine ⟨(by first | exact .inl rfl | exact .inr rfl), _, (fun o => o), (.tmp _ _ _ _ rfl (.tmp _ _ _ _ rfl .nil)), ?_, rfl, ?_, rfl⟩
    · exact rfl
    · exact trivial
  have h4 : HB = xs := by
    by_cases e : HB = xs
    · exact e
    · exact absurd h (by simp [hne e])
  clear h
  rw [if_neg (by simp [h4])] at hE
  subst hE
  rw [sRes_good rfl]
  refine awp_skip (awp_seq ?_)
  refine awp_text (by kernel_rfl) ?_
  (refine r_pure (a_move (r := .p _)) rfl rfl ?_)
  (refine r_pure (a_assign (r := .p _)) rfl rfl ?_)
  (refine r_pure (a_assign (r := .p _)) rfl rfl ?_)
  refine arun_nil ?_
  refine awp_ret ?_
  refine ⟨(by first | exact .inl rfl | exact .inr rfl), _, (fun o => o), (.tmp _ _ _ _ rfl (.tmp _ _ _ _ rfl .nil)), ?_, rfl, ?_, rfl⟩
  · exact rfl
  · exact trivial
end Go.Proofs.Ytmdkfhmmhiofbaa
