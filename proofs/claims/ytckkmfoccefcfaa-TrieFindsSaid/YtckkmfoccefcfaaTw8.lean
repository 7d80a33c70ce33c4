/- Tries, the references: the check. -/
import Derived.Test.YtckkmfoccefcfaaTw7
--%T
namespace Go.Proofs.Ytckkmfoccefcfaa
open Go.RowKit Go.Sort
set_option linter.unusedVariables false
set_option linter.unusedSimpArgs false
set_option maxRecDepth 100000

theorem trieE_cases {l : List ND} (hf : ∀ x ∈ l, x.fault = 0) : trieE l = 0 ∨ trieE l = 14 := by
  unfold trieE
  rw [if_neg (by rw [Decidable.not_not]; exact faultL_zero.2 hf)]
  split
  · exact .inl rfl
  · split
    · exact .inl rfl
    · exact .inr rfl
theorem trieE_no {l : List ND} (hok : ∀ x ∈ l, x.OK) (hf : ∀ x ∈ l, x.fault = 0) (h : ¬ (((prs l).map Prod.fst).Nodup ∧ grownL (prs l) = l)) : trieE l = 14 := by
  rcases trieE_cases hf with h0 | h0
  · exact absurd ((isTrie_grown hok hf).1 ⟨_, (trieE_iff hok).1 h0⟩) h
  · exact h0
theorem trieE_yes {l : List ND} (hok : ∀ x ∈ l, x.OK) (hf : ∀ x ∈ l, x.fault = 0) (h : ((prs l).map Prod.fst).Nodup ∧ grownL (prs l) = l) : trieE l = 0 := by
  obtain ⟨t, hv, hs, hl⟩ := (isTrie_grown hok hf).2 h
  have := (trieE_list (t := t) (by rw [← hl]; exact hok) hv hs).1
  rw [hl]; exact this
def ndVals (x : ND) : List Value := [.int .u32 x.a, .int .i64 x.n, .string x.o, .int .i64 x.s]
theorem ndEq {x y : ND} : eqL (ndVals x) (ndVals y) = true ↔ x = y := by
  rw [eqL_true]
  constructor
  · intro h
    simp only [ndVals, List.cons.injEq, Value.int.injEq, Value.string.injEq, true_and, and_true] at h
    exact ND.ext' h.1 h.2.1 h.2.2.1 h.2.2.2
  · intro h; rw [h]

set_option maxHeartbeats 4000000 in
theorem rcheck_s (l : List ND) (hok : ∀ x ∈ l, x.OK) (hz : l.length * 40 ≤ 140737488351232) : Fn Try.prog 15 [.p (ndsV l)] (.p (.v (.int .i64 (trieE l)))) [] := by
  have hlnl := nds_len l
  refine fn_intro Try.func15 rfl (Nat.le_of_ble_eq_true rfl) fun w0 A => ?_
  refine awp_seq ?_
  refine awp_text (by kernel_rfl) ?_
  (refine r_pure (a_assign (r := .p _)) rfl rfl ?_)
  refine arun_nil ?_
  refine awp_seq (awp_seq ?_)
  refine awp_text (by kernel_rfl) ?_
  (refine r_pure (a_move (r := .p _)) rfl rfl ?_)
  (refine r_pure (a_lenS Try.underlying22) rfl rfl ?_)
  (refine r_pure (a_move (r := .p _)) rfl rfl ?_)
  refine arun_nil ?_
  refine awp_block ?_
  refine awp_loopR (fun m st => ∃ i : Nat, m + i = l.length ∧ (∀ j, j < i → ∀ y, l[j]? = some y → y.fault = 0) ∧ st = St.of [(0, .p (ndsV l)), (12, .p (ndsV l)), (13, .p (.v (.int .i64 l.length))), (14, .p (.v (.int .i64 i)))] []) l.length ?_ ?_
  · refine ⟨_, re_of0 _ (by repeat (first | exact trivial | refine ⟨⟨rfl, rfl⟩, ?_⟩)), 0, by omega, by omega, rfl⟩
  rintro m st ⟨i, hi, hj, rfl⟩
  refine awp_seq ?_
  refine awp_text (by kernel_rfl) ?_
  (refine r_pure a_lss rfl rfl ?_)
  refine arun_nil ?_
  refine awp_seq ?_
  refine awp_cond _ rfl (fun h => ?_) (fun h => ?_)
  · have hlt : i < l.length := by simp at h; omega
    clear h
    obtain ⟨x, hx⟩ : ∃ x, l[i]? = some x := ⟨l[i], List.getElem?_eq_getElem hlt⟩
    have hxo := hok x (List.mem_of_getElem? hx)
    have hld := nds_at l i x hx
    have hC := nrFault_s x.a x.n hxo.a0 hxo.a1
    have hxf : netFault x.a x.n = x.fault := rfl
    rw [hxf] at hC
    obtain ⟨F, hF⟩ : ∃ F, F = x.fault := ⟨_, rfl⟩
    rw [← hF] at hC
    refine awp_skip (awp_seq (awp_block (awp_seq ?_)))
    refine awp_text (by kernel_rfl) ?_
    (refine r_pure (a_indexAddrS Try.underlying22 sz72 (by omega) (by omega) rfl) rfl rfl ?_)
    (refine r_pure (a_loadNp Try.underlying72 rfl sz72 (by rw [List.length_drop, hlnl]; first | omega | (simp only [Int.toNat_natCast]; omega)) ((show _ = x.pv from hld))) rfl rfl ?_)
    (refine r_run (a_alloc 4 zr72 rfl) rfl rfl ⟨rfl, trivial⟩ ?_)
    (refine r_run (a_storeAll (Y := .agg _) sz72 rfl (by first | exact Nat.eq_of_beq_eq_true rfl | (simp only [AV.cells, List.length_map]; first | assumption | omega)) (Nat.eq_of_beq_eq_true rfl)) rfl rfl ⟨rfl, trivial⟩ ?_)
    refine arun_nil ?_
    refine awp_seq ?_
    refine awp_text (by kernel_rfl) ?_
    (refine r_pure (b_fieldAddr fi72_0 rfl) rfl rfl ?_)
    (refine r_run (a_loadN Try.underlying36 rfl sz36 (by first | exact Nat.le_of_ble_eq_true rfl | omega | (simp only [AV.cells, List.length_map]; omega)) (by first | exact take_all (by first | assumption | exact Nat.eq_of_beq_eq_true rfl | (simp only [AV.cells, List.length_map]; first | assumption | omega)) | (simp only [List.take_succ_cons, List.take_zero, List.drop_succ_cons, List.drop_zero]; rfl) | rfl)) rfl rfl ⟨rfl, trivial⟩ ?_)
    (refine r_callV (fun n => 20 + 1000 * n) (hC) rfl rfl Try.func47 rfl rfl (by first | rfl | simp [AV.noSl, AV.noSlL, AObj.noSl, PV.isV, bs_noSl]) (by first | rfl | simp [AV.noSl, AV.noSlL, AObj.noSl, PV.isV, bs_noSl]) rfl rfl rfl (by first | exact trivial | exact ⟨rfl, trivial⟩ | exact ⟨rfl, rfl, trivial⟩) rfl rfl rfl ?_)
    (refine r_pure (a_assign (r := .p _)) rfl rfl ?_)
    refine arun_nil ?_
    refine awp_seq ?_
    refine awp_text (by kernel_rfl) ?_
    (refine r_pure (a_move (r := .p _)) rfl rfl ?_)
    (refine r_pure a_neq rfl rfl ?_)
    refine arun_nil ?_
    refine thn_n ?_
    refine awp_cond _ rfl (fun h => ?_) (fun h => ?_)
    · have hne : x.fault ≠ 0 := by rw [← hF]; simpa using h
      have hE : trieE l = F := by
        unfold trieE
        have := faultL_at hx hj hne
        rw [this, if_pos hne, hF]
      rw [hE]
      refine awp_seq ?_
      refine awp_text (by kernel_rfl) ?_
      (refine r_pure (a_move (r := .p _)) rfl rfl ?_)
      (refine r_pure (a_assign (r := .p _)) rfl rfl ?_)
      refine arun_nil ?_
      refine awp_ret (inb_r (thn_r (thn_r (inb_r (thn_r ?_)))))
      refine ⟨(by first | exact .inl rfl | exact .inr rfl), _, (fun o => o), (.tmp _ _ _ _ rfl .nil), ?_, rfl, ?_, rfl⟩
      · exact rfl
      · exact trivial
    · have he : x.fault = 0 := by rw [← hF]; simpa using h
      refine awp_skip (inb_n (thn_n ?_))
      refine awp_text (by kernel_rfl) ?_
      (refine r_pure (a_add (by first | exact IntWalk.i64_in _ (by omega) | rfl)) rfl rfl ?_)
      (refine r_pure (a_move (r := .p _)) rfl rfl ?_)
      refine arun_nil ?_
      refine thn_n ?_
      refine ⟨m - 1, by omega, _, re_of0 _ (by repeat (first | exact trivial | refine ⟨⟨rfl, rfl⟩, ?_⟩)), i + 1, by omega, ?_, rfl⟩
      intro j hj' y hy
      by_cases hji : j = i
      · subst hji; rw [hx] at hy; cases hy; exact he
      · exact hj j (by omega) y hy
  have hge : i = l.length := by simp at h; omega
  clear h
  subst hge
  have hf : ∀ x ∈ l, x.fault = 0 := fun x hx => by
    obtain ⟨j, hj1, rfl⟩ := List.mem_iff_getElem.1 hx
    exact hj j hj1 _ (List.getElem?_eq_getElem hj1)
  have hO := owned_s l (by omega)
  have hprs := ownedL_prs hok hf
  have hKs := prs_short hok hf
  have hno := @trieE_no l hok hf
  have hyes := @trieE_yes l hok hf
  have hKl : (prs l).length ≤ l.length := by
    have := ownedL_len l
    rw [hprs, List.length_map] at this
    exact this
  rw [hprs] at hO
  generalize hK : prs l = K at *
  have hOi := nds_isV (K.map one)
  have hKn := one_len K
  rw [List.length_map] at hO
  generalize hB : nds (K.map one) = B at *
  refine awp_exit (awp_seq ?_)
  refine awp_text (by kernel_rfl) ?_
  (refine r_pure (a_move (r := .p _)) rfl rfl ?_)
  (refine r_callS (fun n => 26 + 1000 * n) (hO) rfl rfl Try.func48 rfl rfl (by first | rfl | simp [AV.okInL, AV.okIn, okInL_map]) rfl rfl rfl (by first | exact trivial | exact ⟨rfl, trivial⟩ | exact ⟨rfl, rfl, trivial⟩) rfl rfl rfl ?_)
  (refine r_pure (a_assign (r := .row _)) rfl rfl ?_)
  refine arun_nil ?_
  refine awp_seq (awp_seq ?_)
  refine awp_text (by kernel_rfl) ?_
  (refine r_pure (a_move (r := .row _)) rfl rfl ?_)
  (refine r_run (a_lenR Try.underlying22) rfl rfl ⟨rfl, trivial⟩ ?_)
  (refine r_pure (a_move (r := .p _)) rfl rfl ?_)
  refine arun_nil ?_
  have hdup : ∀ (i j : Nat) (x y : Key × Own), i < j → K[i]? = some x → K[j]? = some y → x.1 = y.1 → trieE l = 14 := fun i j x y hij hx hy e => hno fun hh => by
    have hn := hh.1
    have h1 : (K.map Prod.fst)[i]? = some x.1 := by rw [List.getElem?_map, hx]; rfl
    have h2 : (K.map Prod.fst)[j]? = some x.1 := by rw [List.getElem?_map, hy, e]; rfl
    obtain ⟨b1, c1⟩ := List.getElem?_eq_some_iff.1 h1
    obtain ⟨b2, c2⟩ := List.getElem?_eq_some_iff.1 h2
    have := (List.pairwise_iff_getElem.1 hn) i j b1 b2 hij
    exact this (c1.trans c2.symm)
  refine awp_block ?_
  refine awp_loopR (fun m st => ∃ i : Nat, m + i = K.length ∧ (∀ (a b : Nat) (x y : Key × Own), a < b → b < i → K[a]? = some x → K[b]? = some y → x.1 ≠ y.1) ∧ st = St.of [(0, .p (ndsV l)), (6, .row 6), (27, .row 6), (28, .p (.v (.int .i64 K.length))), (29, .p (.v (.int .i64 i)))] [(6, .row 72 4 K.length B)]) K.length ?_ ?_
  · refine ⟨_, re_of (fun _ => 26) _ _ (by repeat (first | exact trivial | refine ⟨⟨rfl, rfl⟩, ?_⟩)) (by repeat (first | exact trivial | refine ⟨⟨rfl, rfl⟩, ?_⟩)) rfl, 0, by omega, by omega, rfl⟩
  rintro m st ⟨i, hi, hj2, rfl⟩
  refine awp_seq ?_
  refine awp_text (by kernel_rfl) ?_
  (refine r_pure a_lss rfl rfl ?_)
  refine arun_nil ?_
  refine awp_seq ?_
  refine awp_cond _ rfl (fun h => ?_) (fun h => ?_)
  · have hlt : i < K.length := by simp at h; omega
    clear h
    obtain ⟨x, hx⟩ : ∃ x, K[i]? = some x := ⟨K[i], List.getElem?_eq_getElem hlt⟩
    have hld := one_at hx
    rw [hB] at hld
    have hxs := hKs x (List.mem_of_getElem? hx)
    refine awp_skip (awp_seq (awp_block (awp_seq ?_)))
    refine awp_text (by kernel_rfl) ?_
    (refine r_pure (a_move (r := .p _)) rfl rfl ?_)
    (refine r_run (a_indexAddrR Try.underlying22 sz72 (by omega) (by omega) (by first | (simp only [Int.toNat_natCast, Nat.mul_one, Nat.zero_add]; rfl) | rfl)) rfl rfl ⟨rfl, trivial⟩ ?_)
    (refine r_run (a_loadNr Try.underlying72 rfl sz72 (by omega) (hld)) rfl rfl ⟨rfl, trivial⟩ ?_)
    (refine r_run (a_alloc 8 zr72 rfl) rfl rfl ⟨rfl, trivial⟩ ?_)
    (refine r_pure (a_assign (r := .p _)) rfl rfl ?_)
    (refine r_run (a_storeAll (Y := .agg _) sz72 rfl (by first | exact Nat.eq_of_beq_eq_true rfl | (simp only [AV.cells, List.length_map]; first | assumption | omega)) (Nat.eq_of_beq_eq_true rfl)) rfl rfl ⟨rfl, trivial⟩ ?_)
    refine arun_nil ?_
    refine awp_seq ?_
    refine awp_text (by kernel_rfl) ?_
    (refine r_pure (a_assign (r := .p _)) rfl rfl ?_)
    refine arun_nil ?_
    refine awp_block ?_
    refine awp_loopR (fun m st => ∃ k : Nat, m + k = i ∧ (∀ a y, a < k → K[a]? = some y → y.1 ≠ x.1) ∧ st = St.of [(0, .p (ndsV l)), (6, .row 6), (7, .p (.v (.int .i64 i))), (8, .ref 8 0), (9, .p (.v (.int .i64 k))), (27, .row 6), (28, .p (.v (.int .i64 K.length))), (29, .p (.v (.int .i64 i)))] [(6, .row 72 4 K.length B), (8, .box 72 [.p (.v (.int .u32 (addrK x.1))), .p (.v (.int .i64 x.1.length)), .p (.v (.string x.2)), .p (.v (.int .i64 1))])]) i ?_ ?_
    · refine ⟨_, re_of id _ _ (by repeat (first | exact trivial | refine ⟨⟨rfl, rfl⟩, ?_⟩)) (by repeat (first | exact trivial | refine ⟨⟨rfl, rfl⟩, ?_⟩)) rfl, 0, by omega, by omega, rfl⟩
    rintro m2 st ⟨k, hk, hk2, rfl⟩
    refine awp_seq (awp_seq ?_)
    refine awp_text (by kernel_rfl) ?_
    (refine r_pure (a_move (r := .p _)) rfl rfl ?_)
    (refine r_pure (a_move (r := .p _)) rfl rfl ?_)
    (refine r_pure a_lss rfl rfl ?_)
    refine arun_nil ?_
    refine thn_n ?_
    refine awp_cond _ rfl (fun h => ?_) (fun h => ?_)
    · have hklt : k < i := by simp at h; omega
      clear h
      obtain ⟨y, hy⟩ : ∃ y, K[k]? = some y := ⟨K[k], List.getElem?_eq_getElem (by omega)⟩
      have hld2 := one_at hy
      rw [hB] at hld2
      have hys := hKs y (List.mem_of_getElem? hy)
      have hEq := keyEq (p := y.1) (q := x.1) hys
      have hld3 : (B.drop (k * 4)).take 2 = [.v (.int .u32 (addrK y.1)), .v (.int .i64 y.1.length)] := by
        have := congrArg (List.take 2) hld2
        rw [List.take_take] at this
        exact this
      refine awp_skip (awp_seq (awp_block (awp_seq ?_)))
      refine awp_draw 4 (by kernel_rfl) ?_
      (refine r_pure (a_move (r := .row _)) rfl rfl ?_)
      (refine r_pure (a_move (r := .p _)) rfl rfl ?_)
      (refine r_run (a_indexAddrR Try.underlying22 sz72 (by omega) (by omega) (by first | (simp only [Int.toNat_natCast, Nat.mul_one, Nat.zero_add]; rfl) | rfl)) rfl rfl ⟨rfl, trivial⟩ ?_)
      (refine r_pure (b_fieldAddr fi72_0 rfl) rfl rfl ?_)
      (refine r_run (a_loadNr Try.underlying36 rfl sz36 (by omega) (hld3)) rfl rfl ⟨rfl, trivial⟩ ?_)
      (refine r_pure (b_fieldAddr fi72_0 rfl) rfl rfl ?_)
      (refine r_run (a_loadN Try.underlying36 rfl sz36 (by first | exact Nat.le_of_ble_eq_true rfl | omega | (simp only [AV.cells, List.length_map]; omega)) (by first | exact take_all (by first | assumption | exact Nat.eq_of_beq_eq_true rfl | (simp only [AV.cells, List.length_map]; first | assumption | omega)) | (simp only [List.take_succ_cons, List.take_zero, List.drop_succ_cons, List.drop_zero]; rfl) | rfl)) rfl rfl ⟨rfl, trivial⟩ ?_)
      (refine r_pure (a_steql Try.underlying36 rfl rfl (by kernel_rfl) (by kernel_rfl) (by kernel_rfl)) rfl rfl ?_)
      refine arun_nil ⟨by kernel_rfl, ?_⟩
      refine thn_n ?_
      refine awp_cond _ rfl (fun h => ?_) (fun h => ?_)
      · have he : y.1 = x.1 := by
          have h' := h
          rw [hEq] at h'
          simpa using h'
        rw [hdup k i y x hklt hy hx he]
        refine awp_seq ?_
        refine awp_text (by kernel_rfl) ?_
        (refine r_pure (a_assign (r := .p _)) rfl rfl ?_)
        refine arun_nil ?_
        (repeat (first | refine awp_seq ?_ | refine awp_block ?_ | refine awp_skip ?_ | refine awp_ret ?_ | refine awp_exit ?_ | refine thn_n ?_ | refine thn_r ?_ | refine thn_x ?_ | refine inb_n ?_ | refine inb_r ?_ | refine inb_x ?_ | refine inb_y rfl ?_))
        refine ⟨(by first | exact .inl rfl | exact .inr rfl), _, (fun o => o), (.tmp _ _ _ _ rfl .nil), ?_, rfl, ?_, rfl⟩
        · exact rfl
        · exact trivial
      · have he : y.1 ≠ x.1 := by
          have h' := h
          rw [hEq] at h'
          simpa using h'
        refine awp_skip (inb_n (thn_n ?_))
        refine awp_text (by kernel_rfl) ?_
        (refine r_pure (a_move (r := .p _)) rfl rfl ?_)
        (refine r_pure (a_add (by first | exact IntWalk.i64_in _ (by omega) | rfl)) rfl rfl ?_)
        (refine r_pure (a_assign (r := .p _)) rfl rfl ?_)
        refine arun_nil ?_
        refine thn_n ?_
        refine ⟨m2 - 1, by omega, _, re_of id _ _ (by repeat (first | exact trivial | refine ⟨⟨rfl, rfl⟩, ?_⟩)) (by repeat (first | exact trivial | refine ⟨⟨rfl, rfl⟩, ?_⟩)) rfl, k + 1, by omega, ?_, rfl⟩
        intro a z ha hz
        by_cases hak : a = k
        · subst hak; rw [hy] at hz; cases hz; exact he
        · exact hk2 a z (by omega) hz
    · have hge : k = i := by simp at h; omega
      subst hge
      clear h
      refine awp_exit (thn_x (thn_x (inb_x (inb_n (thn_n ?_)))))
      refine awp_text (by kernel_rfl) ?_
      (refine r_pure (a_add (by first | exact IntWalk.i64_in _ (by omega) | rfl)) rfl rfl ?_)
      (refine r_pure (a_move (r := .p _)) rfl rfl ?_)
      refine arun_nil ?_
      refine thn_n ?_
      refine ⟨m - 1, by omega, _, re_of id _ _ (by repeat (first | exact trivial | refine ⟨⟨rfl, rfl⟩, ?_⟩)) (by repeat (first | exact trivial | refine ⟨⟨rfl, rfl⟩, ?_⟩)) rfl, k + 1, by omega, ?_, rfl⟩
      intro a b y z hab hb hy hz
      by_cases hbk : b = k
      · subst hbk; rw [hx] at hz; cases hz; exact hk2 a y hab hy
      · exact hj2 a b y z hab (by omega) hy hz
  have hge : i = K.length := by simp at h; omega
  clear h
  subst hge
  have hnd : (K.map Prod.fst).Nodup := by
    refine List.pairwise_iff_getElem.2 fun a b ha hb hab => ?_
    simp only [List.length_map] at ha hb
    rw [List.getElem_map, List.getElem_map]
    exact hj2 a b _ _ hab hb (List.getElem?_eq_getElem ha) (List.getElem?_eq_getElem hb)
  have hfew : K.length ≤ 8589934592 := by
    have := keys_few hnd fun p hp => by
      obtain ⟨x, hx, rfl⟩ := List.mem_map.1 hp
      exact hKs x hx
    rwa [List.length_map] at this
  have hG := grown_s K.length K (Nat.le_refl _) hKs (by omega)
  have hGL : (grownF K.length K).map toND = grownL K := rfl
  rw [hGL] at hG
  rw [hB] at hG
  have hGi := nds_isV (grownL K)
  generalize hL : grownL K = L at *
  refine awp_exit (awp_seq ?_)
  refine awp_text (by kernel_rfl) ?_
  (refine r_pure (a_move (r := .row _)) rfl rfl ?_)
  (refine r_callV (fun n => 49 + 1000 * n) (hG) rfl rfl Try.func49 rfl rfl (by simp [AV.noSl, AV.noSlL, AObj.noSl, hGi]) (by simp [AV.noSl, AV.noSlL, AObj.noSl, hGi]) rfl rfl rfl (by first | exact trivial | exact ⟨rfl, trivial⟩ | exact ⟨rfl, rfl, trivial⟩) rfl rfl rfl ?_)
  (refine r_pure (a_assign (r := .row _)) rfl rfl ?_)
  refine arun_nil ?_
  refine awp_seq (awp_seq ?_)
  refine awp_text (by kernel_rfl) ?_
  (refine r_pure (a_move (r := .row _)) rfl rfl ?_)
  (refine r_run (a_lenR Try.underlying22) rfl rfl ⟨rfl, trivial⟩ ?_)
  (refine r_pure (a_move (r := .p _)) rfl rfl ?_)
  (refine r_pure (a_lenS Try.underlying22) rfl rfl ?_)
  (refine r_pure a_neq rfl rfl ?_)
  refine arun_nil ?_
  refine thn_n ?_
  refine awp_cond _ rfl (fun h => ?_) (fun h => ?_)
  · have hne : L.length ≠ l.length := by simp at h; omega
    rw [hno fun hh => hne (by rw [hh.2])]
    refine awp_seq ?_
    refine awp_text (by kernel_rfl) ?_
    (refine r_pure (a_assign (r := .p _)) rfl rfl ?_)
    refine arun_nil ?_
    refine awp_ret (thn_r ?_)
    refine ⟨(by first | exact .inl rfl | exact .inr rfl), _, (fun o => o), (.tmp _ _ _ _ rfl .nil), ?_, rfl, ?_, rfl⟩
    · exact rfl
    · exact trivial
  have hll : L.length = l.length := by simp at h; omega
  clear h
  have hlnL := nds_len L
  refine awp_skip (awp_seq (awp_seq ?_))
  refine awp_text (by kernel_rfl) ?_
  (refine r_pure (a_move (r := .row _)) rfl rfl ?_)
  (refine r_run (a_lenR Try.underlying22) rfl rfl ⟨rfl, trivial⟩ ?_)
  (refine r_pure (a_move (r := .p _)) rfl rfl ?_)
  refine arun_nil ?_
  refine awp_block ?_
  refine awp_loopR (fun m st => ∃ i : Nat, m + i = L.length ∧ (∀ j, j < i → L[j]? = l[j]?) ∧ st = St.of [(0, .p (ndsV l)), (10, .row 10), (56, .p (.v (.int .i64 L.length))), (57, .p (.v (.int .i64 i)))] [(10, .row 72 4 L.length (nds L))]) L.length ?_ ?_
  · refine ⟨_, re_of (fun _ => 49) _ _ (by repeat (first | exact trivial | refine ⟨⟨rfl, rfl⟩, ?_⟩)) (by repeat (first | exact trivial | refine ⟨⟨rfl, rfl⟩, ?_⟩)) rfl, 0, by omega, by omega, rfl⟩
  rintro m st ⟨i, hi, hj3, rfl⟩
  refine awp_seq ?_
  refine awp_text (by kernel_rfl) ?_
  (refine r_pure a_lss rfl rfl ?_)
  refine arun_nil ?_
  refine awp_seq ?_
  refine awp_cond _ rfl (fun h => ?_) (fun h => ?_)
  · have hlt : i < L.length := by simp at h; omega
    clear h
    obtain ⟨x, hx⟩ : ∃ x, L[i]? = some x := ⟨L[i], List.getElem?_eq_getElem hlt⟩
    obtain ⟨y, hy⟩ : ∃ y, l[i]? = some y := ⟨l[i], List.getElem?_eq_getElem (by omega)⟩
    have hl1 := nds_at L i x hx
    have hl2 := nds_at l i y hy
    have hEq := @ndEq x y
    refine awp_skip (awp_seq (awp_block (awp_seq ?_)))
    refine awp_text (by kernel_rfl) ?_
    (refine r_pure (a_move (r := .p _)) rfl rfl ?_)
    (refine r_pure (a_assign (r := .p _)) rfl rfl ?_)
    refine arun_nil ?_
    refine awp_seq ?_
    refine awp_draw 4 (by kernel_rfl) ?_
    (refine r_pure (a_move (r := .row _)) rfl rfl ?_)
    (refine r_pure (a_move (r := .p _)) rfl rfl ?_)
    (refine r_run (a_indexAddrR Try.underlying22 sz72 (by omega) (by omega) (by first | (simp only [Int.toNat_natCast, Nat.mul_one, Nat.zero_add]; rfl) | rfl)) rfl rfl ⟨rfl, trivial⟩ ?_)
    (refine r_run (a_loadNr Try.underlying72 rfl sz72 (by omega) ((show _ = x.pv from hl1))) rfl rfl ⟨rfl, trivial⟩ ?_)
    (refine r_pure (a_move (r := .p _)) rfl rfl ?_)
    (refine r_pure (a_move (r := .p _)) rfl rfl ?_)
    (refine r_pure (a_indexAddrS Try.underlying22 sz72 (by omega) (by omega) rfl) rfl rfl ?_)
    (refine r_pure (a_loadNp Try.underlying72 rfl sz72 (by rw [List.length_drop, hlnl]; first | omega | (simp only [Int.toNat_natCast]; omega)) ((show _ = y.pv from hl2))) rfl rfl ?_)
    (refine r_pure (a_stneq Try.underlying72 rfl rfl (by kernel_rfl) (by kernel_rfl) (by kernel_rfl)) rfl rfl ?_)
    refine arun_nil ⟨by kernel_rfl, ?_⟩
    refine thn_n ?_
    refine awp_cond _ rfl (fun h => ?_) (fun h => ?_)
    · have hne : x ≠ y := fun e => by
        have h' : (!eqL (ndVals x) (ndVals y)) = true := h
        rw [hEq.2 e] at h'; cases h'
      rw [hno fun hh => hne (by
        have := hh.2
        rw [this, hy] at hx
        exact (Option.some.inj hx).symm)]
      refine awp_seq ?_
      refine awp_text (by kernel_rfl) ?_
      (refine r_pure (a_assign (r := .p _)) rfl rfl ?_)
      refine arun_nil ?_
      refine awp_ret (inb_r (thn_r (thn_r (inb_r (thn_r ?_)))))
      refine ⟨(by first | exact .inl rfl | exact .inr rfl), _, (fun o => o), (.tmp _ _ _ _ rfl .nil), ?_, rfl, ?_, rfl⟩
      · exact rfl
      · exact trivial
    · have he : x = y := hEq.1 (by
        have h' : (!eqL (ndVals x) (ndVals y)) = false := h
        cases hq : eqL (ndVals x) (ndVals y) with
        | true => rfl
        | false => rw [hq] at h'; cases h')
      refine awp_skip (inb_n (thn_n ?_))
      refine awp_text (by kernel_rfl) ?_
      (refine r_pure (a_add (by first | exact IntWalk.i64_in _ (by omega) | rfl)) rfl rfl ?_)
      (refine r_pure (a_move (r := .p _)) rfl rfl ?_)
      refine arun_nil ?_
      refine thn_n ?_
      refine ⟨m - 1, by omega, _, re_of id _ _ (by repeat (first | exact trivial | refine ⟨⟨rfl, rfl⟩, ?_⟩)) (by repeat (first | exact trivial | refine ⟨⟨rfl, rfl⟩, ?_⟩)) rfl, i + 1, by omega, ?_, rfl⟩
      intro j hj4
      by_cases hji : j = i
      · subst hji; rw [hx, hy, he]
      · exact hj3 j (by omega)
  have hge : i = L.length := by simp at h; omega
  clear h
  subst hge
  have hLl : L = l := List.ext_getElem? fun j => by
    by_cases hj5 : j < L.length
    · exact hj3 j hj5
    · rw [List.getElem?_eq_none (by omega), List.getElem?_eq_none (by omega)]
  rw [hyes ⟨hnd, hLl⟩]
  refine awp_exit (awp_seq ?_)
  refine awp_text (by kernel_rfl) ?_
  (refine r_pure (a_assign (r := .p _)) rfl rfl ?_)
  refine arun_nil ?_
  refine awp_ret ?_
  refine ⟨(by first | exact .inl rfl | exact .inr rfl), _, (fun o => o), (.tmp _ _ _ _ rfl .nil), ?_, rfl, ?_, rfl⟩
  · exact rfl
  · exact trivial

/-! the law -/
theorem ND.of_ty {n : Nat} {ps : List PV} (h : Ty Try.prog (n + 3) 72 ps) : ∃ x : ND, x.OK ∧ ps = x.pv := by
  obtain ⟨_, rfl, x0, _, rfl, t0, x1, _, rfl, t1, x2, _, rfl, t2, rfl⟩ := ty_struct (ts := [36, 9, 3]) (by kernel_rfl) h
  obtain ⟨_, rfl, y0, _, rfl, u0, y1, _, rfl, u1, rfl⟩ := ty_struct (ts := [26, 3]) (by kernel_rfl) t0
  obtain ⟨a1, rfl, w1⟩ := ty_string Try.underlying9 t1
  obtain ⟨a2, rfl, w2⟩ := ty_int Try.underlying3 t2
  obtain ⟨b0, rfl, v0⟩ := ty_int Try.underlying26 u0
  obtain ⟨b1, rfl, v1⟩ := ty_int Try.underlying3 u1
  refine ⟨⟨b0, b1, a1, a2⟩, ?_, rfl⟩
  have := wf_i64 w2; have := wf_i64 v1; have := wf_u32 v0
  have : reachBytes ≤ 140737488351232 := Nat.le_of_ble_eq_true rfl
  constructor <;> simp only <;> omega
theorem nodes_of_ty {n : Nat} {ps : List PV} (h : Ty Try.prog (n + 4) 22 ps) : ∃ l : List ND, (∀ x ∈ l, x.OK) ∧ l.length * 40 ≤ 140737488351232 ∧ ps = [ndsV l] := by
  obtain ⟨L, rfl, hz, hL⟩ := ty_sliceS Try.underlying22 (sz := 4) (by kernel_rfl) h
  have hb : Try.prog.bytesOf 72 = 40 := by kernel_rfl
  rw [hb] at hz
  have : reachBytes ≤ 140737488351232 := Nat.le_of_ble_eq_true rfl
  have hex : ∃ l : List ND, (∀ x ∈ l, x.OK) ∧ L = l.map ND.pv := by
    clear hz this h
    induction L with
    | nil => exact ⟨[], by simp, rfl⟩
    | cons y L ih =>
      obtain ⟨l, h1, h2⟩ := ih (fun x hx => hL x (by simp [hx]))
      obtain ⟨x, hx, e⟩ := ND.of_ty (hL y (by simp)).1
      refine ⟨x :: l, fun z hz => ?_, by rw [h2, e]; rfl⟩
      rcases List.mem_cons.1 hz with rfl | hz
      · exact hx
      · exact h1 z hz
  obtain ⟨l, h1, rfl⟩ := hex
  rw [List.length_map] at hz
  refine ⟨l, h1, by omega, ?_⟩
  rw [List.length_map]
  unfold ndsV nds
  rw [List.flatMap_def]
theorem law_TrieChecks (x0 : List PV) (ty0 : Ty Try.prog 10 22 x0) : Fn Try.prog 3 [argAV false x0] (.p (.v (.bool true))) [] := by
  obtain ⟨l, hok, hz, rfl⟩ := nodes_of_ty ty0
  have hA := tcheck_s l hok (by omega)
  have hB := rcheck_s l hok hz
  show Fn Try.prog 3 [.p (ndsV l)] (.p (.v (.bool true))) []
  generalize trieE l = e at *
  refine fn_intro Try.func3 rfl (Nat.le_of_ble_eq_true rfl) fun w0 A => ?_
  refine awp_seq ?_
  refine awp_text (by kernel_rfl) ?_
  (refine r_pure (a_assign (r := .p _)) rfl rfl ?_)
  refine arun_nil ?_
  refine awp_seq ?_
  refine awp_text (by kernel_rfl) ?_
  (refine r_pure (a_move (r := .p _)) rfl rfl ?_)
  (refine r_callV (fun n => 6 + 1000 * n) (hA) rfl rfl Try.func14 rfl rfl (by first | rfl | simp [AV.noSl, AV.noSlL, AObj.noSl, PV.isV, bs_noSl]) (by first | rfl | simp [AV.noSl, AV.noSlL, AObj.noSl, PV.isV, bs_noSl]) rfl rfl rfl (by first | exact trivial | exact ⟨rfl, trivial⟩ | exact ⟨rfl, rfl, trivial⟩) rfl rfl rfl ?_)
  (refine r_pure (a_assign (r := .p _)) rfl rfl ?_)
  refine arun_nil ?_
  refine awp_seq ?_
  refine awp_text (by kernel_rfl) ?_
  (refine r_pure (a_move (r := .p _)) rfl rfl ?_)
  (refine r_callV (fun n => 8 + 1000 * n) (hB) rfl rfl Try.func15 rfl rfl (by first | rfl | simp [AV.noSl, AV.noSlL, AObj.noSl, PV.isV, bs_noSl]) (by first | rfl | simp [AV.noSl, AV.noSlL, AObj.noSl, PV.isV, bs_noSl]) rfl rfl rfl (by first | exact trivial | exact ⟨rfl, trivial⟩ | exact ⟨rfl, rfl, trivial⟩) rfl rfl rfl ?_)
  (refine r_pure (a_assign (r := .p _)) rfl rfl ?_)
  refine arun_nil ?_
  refine awp_seq ?_
  refine awp_text (by kernel_rfl) ?_
  (refine r_pure (a_move (r := .p _)) rfl rfl ?_)
  (refine r_pure (a_move (r := .p _)) rfl rfl ?_)
  (refine r_pure a_eqlT rfl rfl ?_)
  (refine r_pure (a_assign (r := .p _)) rfl rfl ?_)
  refine arun_nil ?_
  refine awp_ret ?_
  refine ⟨(by first | exact .inl rfl | exact .inr rfl), _, (fun o => o), (.tmp _ _ _ _ rfl .nil), ?_, rfl, ?_, rfl⟩
  · exact rfl
  · exact trivial
end Go.Proofs.Ytckkmfoccefcfaa
