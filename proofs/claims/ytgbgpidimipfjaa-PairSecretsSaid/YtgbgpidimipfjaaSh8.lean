/- The reference's ShaSum, over data. -/
import Derived.Test.YtgbgpidimipfjaaSh7
namespace Go.Proofs.Ytgbgpidimipfjaa
open Go.RowKit Go.Sort
set_option linter.unusedVariables false
set_option linter.unusedSimpArgs false
set_option maxRecDepth 100000

def isU (x : Int) : Prop := 0 ≤ x ∧ x < 4294967296
theorem ad_U (a b : Int) : isU (ad a b) := by unfold ad isU; rw [IntKind.wrap_u32]; omega
theorem plus_U (v h : V8) : ∀ x ∈ (v.plus h).l, isU x := by
  intro x hx
  simp only [V8.l, V8.plus, List.mem_cons, List.not_mem_nil, or_false] at hx
  rcases hx with rfl | rfl | rfl | rfl | rfl | rfl | rfl | rfl <;> exact ad_U _ _
theorem sumH_U (P : List Int) : ∀ k, ∀ x ∈ (sumH P k).l, isU x
  | 0 => by
    intro x hx
    simp only [sumH, V8.l, H0, List.mem_cons, List.not_mem_nil, or_false] at hx
    rcases hx with rfl | rfl | rfl | rfl | rfl | rfl | rfl | rfl <;> (unfold isU; omega)
  | k + 1 => plus_U _ _
theorem w4_eq {x : Int} (h : isU x) : w4 x = [x / 16777216 % 256, x / 65536 % 256, x / 256 % 256, x / 1 % 256] := by
  have e : ∀ k, sr x k = x / 2 ^ k := fun k => Int.fdiv_eq_ediv_of_nonneg _ (by exact Int.le_of_lt (Int.pow_pos (by omega)))
  simp only [w4, e, IntKind.wrap_u8]
  rw [show (2 : Int) ^ 24 = 16777216 from rfl, show (2 : Int) ^ 16 = 65536 from rfl, show (2 : Int) ^ 8 = 256 from rfl, Int.ediv_one]

set_option maxHeartbeats 4000000 in
theorem refSum_s (n : Nat) (xs : List Int) (hn : xs.length = n) (hb : isB xs) : Fn Try.prog 19 [.p (.sl n 1 (bs xs))] (bRes (padE n)) (bNew (padE n) 32 (shaD xs)) := by
  have hP := refPad_s n xs hn
  have hpl := shaPad_len xs
  have hpb := shaPad_B hb
  have hv : shaV xs = sumH (shaPad xs) (padLen n / 64) := by unfold shaV; rw [hn]
  have hd : shaD xs = outK (shaV xs) 8 := rfl
  rw [hn] at hpl
  refine fn_intro Try.func19 rfl (Nat.le_of_ble_eq_true rfl) fun w0 A => ?_
  by_cases hbig : 1000 < n
  · have he : padE n = 1 := by unfold padE; rw [if_pos hbig]
    obtain ⟨e1, e2⟩ := bRes_bad (e' := 1) he (by omega) 32 (shaD xs)
    obtain ⟨e3, e4⟩ := bRes_bad (e' := 1) he (by omega) (padLen n) (shaPad xs)
    rw [e3, e4] at hP
    rw [e1, e2]
    refine awp_seq ?_
    refine awp_text (by kernel_rfl) ?_
    (refine r_pure (a_assign (r := .p _)) rfl rfl ?_)
    (refine r_pure (a_assign (r := .p _)) rfl rfl ?_)
    refine arun_nil ?_
    refine awp_seq ?_
    refine awp_text (by kernel_rfl) ?_
    (refine r_pure (a_move (r := .p _)) rfl rfl ?_)
    (refine r_callV (fun n => 17 + 1000 * n) (hP) rfl rfl Try.func57 rfl rfl (by first | rfl | simp [AV.noSl, AV.noSlL, AObj.noSl, PV.isV, bs_noSl]) (by first | rfl | simp [AV.noSl, AV.noSlL, AObj.noSl, PV.isV, bs_noSl]) rfl rfl rfl (by first | exact trivial | exact ⟨rfl, trivial⟩ | exact ⟨rfl, rfl, trivial⟩) rfl rfl rfl ?_)
    (refine r_pure (a_move (r := .tup _)) rfl rfl ?_)
    (refine r_pure (a_extract rfl) rfl rfl ?_)
    (refine r_pure (a_extract rfl) rfl rfl ?_)
    (first | refine r_pure (a_assign (r := .p _)) rfl rfl ?_ | refine r_pure (a_assign (r := .row _)) rfl rfl ?_)
    (refine r_pure (a_assign (r := .p _)) rfl rfl ?_)
    refine arun_nil ?_
    refine awp_seq (awp_seq ?_)
    refine awp_text (by kernel_rfl) ?_
    (refine r_pure (a_move (r := .p _)) rfl rfl ?_)
    (refine r_pure a_neq rfl rfl ?_)
    refine arun_nil ?_
    refine thn_n ?_
    refine awp_cond _ rfl (fun h => ?_) (fun h => ?_)
    · refine awp_seq ?_
      refine awp_text (by kernel_rfl) ?_
      (refine r_pure (a_move (r := .p _)) rfl rfl ?_)
      (refine r_pure (a_assign (r := .p _)) rfl rfl ?_)
      (refine r_pure (a_assign (r := .p _)) rfl rfl ?_)
      refine arun_nil ?_
      refine awp_ret (thn_r ?_)
      refine ⟨(by first | exact .inl rfl | exact .inr rfl), _, (fun o => o), (.tmp _ _ _ _ rfl (.tmp _ _ _ _ rfl .nil)), ?_, rfl, ?_, rfl⟩
      · exact rfl
      · exact trivial
    · cases h
  have he : padE n = 0 := by unfold padE; rw [if_neg hbig]
  obtain ⟨e1, e2⟩ := bRes_good he 32 (shaD xs)
  obtain ⟨e3, e4⟩ := bRes_good he (padLen n) (shaPad xs)
  rw [e3, e4] at hP
  rw [e1, e2]
  have hpd : 64 * (padLen n / 64) = padLen n := by have := padLen_64 n; omega
  have hpm : padLen n ≤ 2000 := by have := padZ_lt n; unfold padLen; omega
  clear e1 e2 e3 e4
  generalize shaPad xs = Pd at hP hpl hpb hv
  rw [hd, hv]
  clear hd hv
  generalize padLen n = pn at hP hpl hpd hpm ⊢
  obtain ⟨nb, hnb⟩ : ∃ nb, pn / 64 = nb := ⟨_, rfl⟩
  rw [hnb] at hpd ⊢
  refine awp_seq ?_
  refine awp_text (by kernel_rfl) ?_
  (refine r_pure (a_assign (r := .p _)) rfl rfl ?_)
  (refine r_pure (a_assign (r := .p _)) rfl rfl ?_)
  refine arun_nil ?_
  refine awp_seq ?_
  refine awp_text (by kernel_rfl) ?_
  (refine r_pure (a_move (r := .p _)) rfl rfl ?_)
  (refine r_callV (fun n => 17 + 1000 * n) (hP) rfl rfl Try.func57 rfl rfl (by first | rfl | simp [AV.noSl, AV.noSlL, AObj.noSl, PV.isV, bs_noSl]) (by first | rfl | simp [AV.noSl, AV.noSlL, AObj.noSl, PV.isV, bs_noSl]) rfl rfl rfl (by first | exact trivial | exact ⟨rfl, trivial⟩ | exact ⟨rfl, rfl, trivial⟩) rfl rfl rfl ?_)
  (refine r_pure (a_move (r := .tup _)) rfl rfl ?_)
  (refine r_pure (a_extract rfl) rfl rfl ?_)
  (refine r_pure (a_extract rfl) rfl rfl ?_)
  (first | refine r_pure (a_assign (r := .p _)) rfl rfl ?_ | refine r_pure (a_assign (r := .row _)) rfl rfl ?_)
  (refine r_pure (a_assign (r := .p _)) rfl rfl ?_)
  refine arun_nil ?_
  refine awp_seq (awp_seq ?_)
  refine awp_text (by kernel_rfl) ?_
  (refine r_pure (a_move (r := .p _)) rfl rfl ?_)
  (refine r_pure a_neq rfl rfl ?_)
  refine arun_nil ?_
  refine thn_n ?_
  refine awp_cond _ rfl (fun h => ?_) (fun h => ?_)
  · cases h
  clear h
  refine awp_skip (awp_seq ?_)
  refine awp_text (by kernel_rfl) ?_
  (refine r_run (xs := (iu H0.l)) (a_buildSlice (es := (iu H0.l)) (cs := (pu H0.l)) 23 Try.underlying72 sz23 zc23 (Nat.le_of_ble_eq_true rfl) (Nat.le_of_ble_eq_true rfl) rfl (by kernel_rfl) (by kernel_rfl) (by kernel_rfl) (Nat.le_of_ble_eq_true rfl)) (by first | rfl | kernel_rfl) rfl ⟨rfl, trivial⟩ ?_)
  (refine r_pure (a_assign (r := .row _)) rfl rfl ?_)
  refine arun_nil ?_
  refine awp_seq ?_
  refine awp_text (by kernel_rfl) ?_
  (refine r_callV (fun n => 24 + 1000 * n) (refRounds_s) rfl rfl Try.func58 rfl rfl (by kernel_rfl) (by kernel_rfl) rfl rfl rfl (by first | exact trivial | exact ⟨rfl, trivial⟩ | exact ⟨rfl, rfl, trivial⟩) rfl rfl rfl ?_)
  (refine r_pure (a_assign (r := .row _)) rfl rfl ?_)
  refine arun_nil ?_
  refine awp_seq (awp_block ?_)
  refine awp_re (re_rowpsl 4 (o := 17) rfl rfl) ?_
  refine awp_loopR (fun m st => ∃ k : Nat, m + k = nb ∧ st = St.of [(4, .psl 4 (64 * k) (pn - 64 * k) 1), (6, .row 6), (7, .row 7)] [(4, .row 5 1 pn (bs Pd)), (6, .row 23 1 8 (pu (sumH Pd k).l)), (7, .row 23 1 64 (pu RK))]) nb ?_ ?_
  · refine ⟨_, re_of (fun o => bif Nat.beq o 4 then 17 else bif Nat.beq o 6 then 23 else 24) _ _ ?_ ?_ rfl, 0, by omega, rfl⟩
    · (repeat (first | exact trivial | (refine ⟨⟨(by first | rfl | (simp; done) | (simp; omega)), rfl⟩, ?_⟩)))
    · exact ⟨⟨rfl, rfl⟩, ⟨rfl, rfl⟩, ⟨rfl, rfl⟩, trivial⟩
  rintro m st ⟨k, hk, rfl⟩
  refine awp_seq (awp_seq ?_)
  refine awp_text (by kernel_rfl) ?_
  (refine r_pure (a_move (r := .psl _ _ _ _)) rfl rfl ?_)
  (refine r_pure (a_lenV Try.underlying22) rfl rfl ?_)
  (refine r_pure a_gtr rfl rfl ?_)
  refine arun_nil ?_
  refine thn_n ?_
  refine awp_cond _ rfl (fun h => ?_) (fun h => ?_)
  · have hlt : k < nb := by simp at h; omega
    clear h
    have hnx : sumH Pd (k + 1) = blk8 (sumH Pd k) ((Pd.drop (64 * k)).take 64) := rfl
    have hcl : ((Pd.drop (64 * k)).take 64).length = 64 := by rw [List.length_take, List.length_drop]; omega
    have hcb : isB ((Pd.drop (64 * k)).take 64) := fun y hy => hpb y (List.mem_of_mem_drop (List.mem_of_mem_take hy))
    have hce : ∀ i, i < 64 → ((Pd.drop (64 * k)).take 64)[i]? = Pd[64 * k + i]? := fun i hi => by rw [List.getElem?_take, if_pos hi, List.getElem?_drop]
    generalize (Pd.drop (64 * k)).take 64 = Bl at hnx hcl hcb hce
    generalize sumH Pd k = v at hnx ⊢
    refine awp_skip (awp_block (awp_seq ?_))
    refine awp_text (by kernel_rfl) ?_
    (refine r_run (a_make1 28 Try.underlying72 eo23 zr23 rfl (by omega) (by omega) (by omega) (by simp only [maxLen]; omega) rfl) rfl rfl ⟨rfl, trivial⟩ ?_)
    (refine r_pure (a_assign (r := .row _)) rfl rfl ?_)
    refine arun_nil ?_
    refine awp_seq (awp_seq ?_)
    refine awp_text (by kernel_rfl) ?_
    (refine r_pure (a_assign (r := .p _)) rfl rfl ?_)
    refine arun_nil ?_
    refine awp_block ?_
    refine awp_loopR (fun m2 st => ∃ i : Nat, m2 + i = 64 ∧ st = St.of [(4, .psl 4 (64 * k) (pn - 64 * k) 1), (6, .row 6), (7, .row 7), (8, .row 8), (9, .p (.v (.int .i64 i)))] [(4, .row 5 1 pn (bs Pd)), (6, .row 23 1 8 (pu v.l)), (7, .row 23 1 64 (pu RK)), (8, .row 23 1 16 (pu (wp Bl i)))]) 64 ?_ ?_
    · refine ⟨_, re_of (fun o => bif Nat.beq o 8 then 28 else o) _ _ ?_ ?_ rfl, 0, by omega, rfl⟩
      · (repeat (first | exact trivial | (refine ⟨⟨(by first | rfl | (simp; done) | (simp; omega)), rfl⟩, ?_⟩)))
      · rw [wp_zero]
        exact ⟨⟨rfl, rfl⟩, ⟨rfl, rfl⟩, ⟨rfl, rfl⟩, ⟨rfl, rfl⟩, trivial⟩
    rintro m2 st ⟨i, hi, rfl⟩
    refine awp_seq (awp_seq ?_)
    refine awp_text (by kernel_rfl) ?_
    (refine r_pure (a_move (r := .p _)) rfl rfl ?_)
    (refine r_pure a_lss rfl rfl ?_)
    refine arun_nil ?_
    refine thn_n ?_
    refine awp_cond _ rfl (fun h => ?_) (fun h => ?_)
    · have hi2 : i < 64 := by simp at h; omega
      clear h
      obtain ⟨x, hx⟩ : ∃ x, Bl[i]? = some x := ⟨Bl[i]'(by omega), List.getElem?_eq_getElem (by omega)⟩
      have hxb := hcb x (List.mem_of_getElem? hx)
      have g1 := bs_at ((hce i hi2).symm.trans hx)
      have hwb := wd_bd (i := i) hcb
      have hlen := wp_len Bl i
      have g2 := pu_at (wp_at (xs := Bl) hi2)
      have g4 : setR (pu (wp Bl i)) (i / 4) [.v (.int .u32 (wd Bl i (i / 4) * 256 + x))] = pu (wp Bl (i + 1)) := by
        rw [pu_set (by rw [hlen]; omega), wp_step hi2 hx]
      have g5 : (pu (wp Bl i)).length = 16 := by rw [pu_len]; exact hlen
      refine awp_skip (awp_seq (awp_block ?_))
      refine awp_draw 9 (by kernel_rfl) ?_
      (refine r_pure (a_move (r := .row _)) rfl rfl ?_)
      (refine r_pure (a_move (r := .p _)) rfl rfl ?_)
      (refine r_pure (a_quo (by omega) (by first | exact IntWalk.i64_quo _ _ (by omega) | rfl)) rfl rfl ?_)
      (refine r_pure (a_move (r := .row _)) rfl rfl ?_)
      (refine r_pure (a_move (r := .p _)) rfl rfl ?_)
      (refine r_pure (a_quo (by omega) (by first | exact IntWalk.i64_quo _ _ (by omega) | rfl)) rfl rfl ?_)
      (refine r_run (a_indexAddrR Try.underlying72 sz23 (by omega) (by omega) (show _ = i / 4 by omega)) rfl rfl ⟨rfl, trivial⟩ ?_)
      (refine r_run (a_load1r Try.underlying23 rfl g2) rfl rfl ⟨rfl, trivial⟩ ?_)
      (refine r_pure (a_mul (by first | exact IntWalk.u32_in _ (by omega) | rfl)) rfl rfl ?_)
      (refine r_pure (a_move (r := .psl _ _ _ _)) rfl rfl ?_)
      (refine r_pure (a_move (r := .p _)) rfl rfl ?_)
      (refine r_pure (a_indexAddrV Try.underlying22 sz5 (by omega) (by omega) (show _ = 64 * k + i by omega)) rfl rfl ?_)
      (refine r_run (a_load1r Try.underlying5 rfl g1) rfl rfl ⟨rfl, trivial⟩ ?_)
      (refine r_pure (a_conv Try.underlying5 Try.underlying23 (by first | exact IntWalk.u32_in _ (by omega) | rfl)) rfl rfl ?_)
      (refine r_pure (a_add (by first | exact IntWalk.u32_in _ (by omega) | rfl)) rfl rfl ?_)
      (refine r_run (a_indexAddrR Try.underlying72 sz23 (by omega) (by omega) (show _ = i / 4 by omega)) rfl rfl ⟨rfl, trivial⟩ ?_)
      (refine r_run (a_storeR (Y := .p _) sz23 rfl rfl (by first | rfl | omega) (by omega) g4) rfl rfl ⟨rfl, trivial⟩ ?_)
      refine arun_nil ⟨by kernel_rfl, ?_⟩
      refine inb_n (thn_n ?_)
      refine awp_text (by kernel_rfl) ?_
      (refine r_pure (a_move (r := .p _)) rfl rfl ?_)
      (refine r_pure (a_add (by first | exact IntWalk.i64_in _ (by omega) | rfl)) rfl rfl ?_)
      (refine r_pure (a_assign (r := .p _)) rfl rfl ?_)
      refine arun_nil ?_
      refine thn_n ?_
      refine ⟨m2 - 1, by omega, _, re_of id _ _ ?_ ?_ rfl, i + 1, by omega, rfl⟩
      · (repeat (first | exact trivial | (refine ⟨⟨(by first | rfl | (simp; done) | (simp; omega)), rfl⟩, ?_⟩)))
      · exact ⟨⟨rfl, rfl⟩, ⟨rfl, rfl⟩, ⟨rfl, rfl⟩, ⟨rfl, rfl⟩, trivial⟩
    have hi3 : i = 64 := by simp at h; omega
    clear h
    subst hi3
    refine awp_exit (awp_seq ?_)
    refine awp_text (by kernel_rfl) ?_
    (refine r_pure (a_move (r := .row _)) rfl rfl ?_)
    (refine r_pure (a_move (r := .row _)) rfl rfl ?_)
    (refine r_pure (a_move (r := .row _)) rfl rfl ?_)
    (refine r_callV (fun n => 52 + 1000 * n) (compr_s v Bl) rfl rfl Try.func59 rfl rfl (by kernel_rfl) (by kernel_rfl) rfl rfl rfl (by first | exact trivial | exact ⟨rfl, trivial⟩ | exact ⟨rfl, rfl, trivial⟩) rfl rfl rfl ?_)
    (refine r_pure (a_assign (r := .row _)) rfl rfl ?_)
    refine arun_nil ?_
    refine thn_n ?_
    refine awp_text (by kernel_rfl) ?_
    (refine r_pure (a_move (r := .psl _ _ _ _)) rfl rfl ?_)
    (refine r_pure (a_sliceV (L := (some (_, _))) (H := none) Try.underlying22 sz5 ⟨by omega, (show _ = 64 by omega)⟩ rfl (by omega) (by omega) (show _ = pn - 64 * (k + 1) by omega) (show _ = 64 * (k + 1) by omega)) rfl rfl ?_)
    (refine r_pure (a_assign (r := .psl _ _ _ _)) rfl rfl ?_)
    refine arun_nil ?_
    refine inb_n (thn_n ?_)
    refine ⟨m - 1, by omega, _, re_of (fun o => bif Nat.beq o 6 then 52 else o) _ _ ?_ ?_ rfl, k + 1, by omega, rfl⟩
    · (repeat (first | exact trivial | (refine ⟨⟨(by first | rfl | (simp; done) | (simp; omega)), rfl⟩, ?_⟩)))
    · rw [hnx]
      exact ⟨⟨rfl, rfl⟩, ⟨rfl, rfl⟩, ⟨rfl, rfl⟩, trivial⟩
  have hge : k = nb := by simp at h; omega
  clear h
  subst hge
  have hU := sumH_U Pd k
  generalize sumH Pd k = v at hU ⊢
  refine awp_exit (awp_seq ?_)
  refine awp_text (by kernel_rfl) ?_
  (refine r_pure (a_assign (r := .p _)) rfl rfl ?_)
  refine arun_nil ?_
  refine awp_seq (awp_seq ?_)
  refine awp_re (re_nil 10 10 5 1 rfl rfl) ?_
  refine awp_text (by kernel_rfl) ?_
  (refine r_pure (a_move (r := .row _)) rfl rfl ?_)
  (refine r_run (a_lenR Try.underlying72) rfl rfl ⟨rfl, trivial⟩ ?_)
  (refine r_pure (a_move (r := .p _)) rfl rfl ?_)
  refine arun_nil ?_
  refine awp_block ?_
  refine awp_loopR (fun m st => ∃ k : Nat, m + k = 8 ∧ st = St.of [(10, .row 10), (55, .row 6), (56, .p (.v (.int .i64 8))), (57, .p (.v (.int .i64 k)))] [(10, .row 5 1 (4 * k) (bs (outK v k))), (6, .row 23 1 8 (pu v.l))]) 8 ?_ ?_
  · refine ⟨_, re_of id _ _ ?_ ?_ rfl, 0, by omega, rfl⟩
    · (repeat (first | exact trivial | (refine ⟨⟨(by first | rfl | (simp; done) | (simp; omega)), rfl⟩, ?_⟩)))
    · exact ⟨⟨rfl, rfl⟩, ⟨rfl, rfl⟩, trivial⟩
  rintro m st ⟨k, hk, rfl⟩
  refine awp_seq ?_
  refine awp_text (by kernel_rfl) ?_
  (refine r_pure a_lss rfl rfl ?_)
  refine arun_nil ?_
  refine awp_seq ?_
  refine awp_cond _ rfl (fun h => ?_) (fun h => ?_)
  · have hlt : k < 8 := by simp at h; omega
    clear h
    have g1 := pu_getD (xs := v.l) (i := k) hlt
    have g2 := outK_next v k hlt
    have hx : isU (v.l.getD k 0) := hU _ (List.mem_of_getElem? (show v.l[k]? = some _ by rw [List.getD_eq_getElem?_getD, List.getElem?_eq_getElem (show k < v.l.length from hlt)]; rfl))
    generalize v.l.getD k 0 = x at g1 g2 hx
    have hw := w4_eq hx
    generalize w4 x = ws at hw g2
    have hwl : ws.length = 4 := by rw [hw]; rfl
    obtain ⟨hx0, hx1⟩ := hx
    refine awp_skip (awp_seq (awp_block (awp_seq ?_)))
    refine awp_text (by kernel_rfl) ?_
    (refine r_run (a_indexAddrR Try.underlying72 sz23 (by omega) (by omega) (by first | (simp only [Int.toNat_natCast, Nat.mul_one, Nat.zero_add]; rfl) | rfl)) rfl rfl ⟨rfl, trivial⟩ ?_)
    (refine r_run (a_load1r Try.underlying23 rfl (by first | rfl | assumption | ((try simp only [List.getElem?_drop, List.getElem?_take, Int.toNat_natCast, Nat.mul_one, Nat.add_zero, Nat.zero_add]); first | assumption | rfl))) rfl rfl ⟨rfl, trivial⟩ ?_)
    (refine r_pure (a_assign (r := .p _)) rfl rfl ?_)
    refine arun_nil ?_
    refine awp_seq ?_
    refine awp_text (by kernel_rfl) ?_
    (refine r_run (xs := (iu [16777216, 65536, 256, 1])) (a_buildSlice (es := (iu [16777216, 65536, 256, 1])) (cs := (pu [16777216, 65536, 256, 1])) 61 Try.underlying72 sz23 zc23 (Nat.le_of_ble_eq_true rfl) (Nat.le_of_ble_eq_true rfl) rfl (by kernel_rfl) (by kernel_rfl) (by kernel_rfl) (Nat.le_of_ble_eq_true rfl)) (by first | rfl | kernel_rfl) rfl ⟨rfl, trivial⟩ ?_)
    (refine r_run (a_lenR Try.underlying72) rfl rfl ⟨rfl, trivial⟩ ?_)
    (refine r_pure (a_move (r := .p _)) rfl rfl ?_)
    refine arun_nil ?_
    refine awp_block ?_
    refine awp_loopR (fun m2 st => ∃ j : Nat, m2 + j = 4 ∧ st = St.of [(10, .row 10), (12, .p (.v (.int .u32 x))), (55, .row 6), (56, .p (.v (.int .i64 8))), (57, .p (.v (.int .i64 k))), (61, .row 61), (62, .p (.v (.int .i64 4))), (63, .p (.v (.int .i64 j)))] [(10, .row 5 1 (4 * k + j) (bs (outK v k ++ ws.take j))), (6, .row 23 1 8 (pu v.l)), (61, .row 23 1 4 (pu [16777216, 65536, 256, 1]))]) 4 ?_ ?_
    · refine ⟨_, re_of id _ _ ?_ ?_ rfl, 0, by omega, rfl⟩
      · (repeat (first | exact trivial | (refine ⟨⟨(by first | rfl | (simp; done) | (simp; omega)), rfl⟩, ?_⟩)))
      · rw [List.take_zero, List.append_nil]
        exact ⟨⟨rfl, rfl⟩, ⟨rfl, rfl⟩, ⟨rfl, rfl⟩, trivial⟩
    rintro m2 st ⟨j, hj, rfl⟩
    refine awp_seq ?_
    refine awp_text (by kernel_rfl) ?_
    (refine r_pure a_lss rfl rfl ?_)
    refine arun_nil ?_
    refine awp_seq ?_
    refine awp_cond _ rfl (fun h => ?_) (fun h => ?_)
    · have hj2 : j < 4 := by simp at h; omega
      clear h
      obtain ⟨u, hu, hu1, hwj, hq⟩ : ∃ u, (pu [16777216, 65536, 256, 1])[j]? = some (.v (.int .u32 u)) ∧ (1 ≤ u ∧ u ≤ 16777216) ∧ ws[j]? = some (x / u % 256) ∧ 0 ≤ x / u ∧ x / u ≤ 4294967295 := by
        rw [hw]
        have : j = 0 ∨ j = 1 ∨ j = 2 ∨ j = 3 := by omega
        rcases this with rfl | rfl | rfl | rfl
        · exact ⟨16777216, rfl, by omega, rfl, by omega⟩
        · exact ⟨65536, rfl, by omega, rfl, by omega⟩
        · exact ⟨256, rfl, by omega, rfl, by omega⟩
        · exact ⟨1, rfl, by omega, rfl, by omega⟩
      have hwt : ws.take (j + 1) = ws.take j ++ [x / u % 256] := by
        have hjl : j < ws.length := by omega
        rw [List.take_succ_eq_append_getElem hjl]
        congr 2
        exact (List.getElem?_eq_some_iff.1 hwj).2
      have hquo : IntKind.u32.wrap (x.tdiv u) = x / u := by rw [Int.tdiv_eq_ediv_of_nonneg hx0]; exact IntWalk.u32_in _ hq
      refine awp_skip (awp_seq (awp_block (awp_seq ?_)))
      refine awp_text (by kernel_rfl) ?_
      (refine r_run (a_indexAddrR Try.underlying72 sz23 (by omega) (by omega) (by first | (simp only [Int.toNat_natCast, Nat.mul_one, Nat.zero_add]; rfl) | rfl)) rfl rfl ⟨rfl, trivial⟩ ?_)
      (refine r_run (a_load1r Try.underlying23 rfl (by first | rfl | assumption | ((try simp only [List.getElem?_drop, List.getElem?_take, Int.toNat_natCast, Nat.mul_one, Nat.add_zero, Nat.zero_add]); first | assumption | rfl))) rfl rfl ⟨rfl, trivial⟩ ?_)
      (refine r_pure (a_assign (r := .p _)) rfl rfl ?_)
      refine arun_nil ?_
      refine thn_n ?_
      refine awp_text (by kernel_rfl) ?_
      (refine r_pure (a_move (r := .row _)) rfl rfl ?_)
      (refine r_pure (a_move (r := .p _)) rfl rfl ?_)
      (refine r_pure (a_move (r := .p _)) rfl rfl ?_)
      refine r_pure (a_quo (by omega) hquo) rfl rfl ?_
      (refine r_pure (a_rem (by omega) (by first | exact IntWalk.rem_in _ _ (by omega) | rfl)) rfl rfl ?_)
      (refine r_pure (a_conv Try.underlying23 Try.underlying5 (by first | exact IntWalk.u8_in _ (by omega) | rfl)) rfl rfl ?_)
      (refine r_run (xs := [.p (.v (.int .u8 (x / u % 256)))]) (a_buildSlice (es := [.p (.v (.int .u8 (x / u % 256)))]) (cs := [.v (.int .u8 (x / u % 256))]) 73 Try.underlying22 sz5 zc5 (Nat.le_of_ble_eq_true rfl) (Nat.le_of_ble_eq_true rfl) rfl (by kernel_rfl) (by kernel_rfl) (by kernel_rfl) (Nat.le_of_ble_eq_true rfl)) (by first | rfl | kernel_rfl) rfl ⟨rfl, trivial⟩ ?_)
      (refine r_run (a_append 74 Try.underlying22 eo5 (src_row) (by simp only [maxLen]; omega) (by omega) (show _ = 4 * k + (j + 1) by omega) rfl) rfl rfl ⟨rfl, rfl, rfl, trivial⟩ ?_)
      (refine r_pure (a_assign (r := .row _)) rfl rfl ?_)
      refine arun_nil ?_
      refine inb_n (thn_n ?_)
      refine awp_text (by kernel_rfl) ?_
      (refine r_pure (a_add (by first | exact IntWalk.i64_in _ (by omega) | rfl)) rfl rfl ?_)
      (refine r_pure (a_move (r := .p _)) rfl rfl ?_)
      refine arun_nil ?_
      refine thn_n ?_
      refine ⟨m2 - 1, by omega, _, re_of (fun o => bif Nat.beq o 10 then 74 else o) _ _ ?_ ?_ rfl, j + 1, by omega, rfl⟩
      · (repeat (first | exact trivial | (refine ⟨⟨(by first | rfl | (simp; done) | (simp; omega)), rfl⟩, ?_⟩)))
      · rw [hwt, ← List.append_assoc, ← bs_push]
        exact ⟨⟨rfl, rfl⟩, ⟨rfl, rfl⟩, ⟨rfl, rfl⟩, trivial⟩
    have hj3 : j = 4 := by simp at h; omega
    clear h
    subst hj3
    refine awp_exit (thn_x (thn_x (inb_x (inb_n (thn_n ?_)))))
    refine awp_text (by kernel_rfl) ?_
    (refine r_pure (a_add (by first | exact IntWalk.i64_in _ (by omega) | rfl)) rfl rfl ?_)
    (refine r_pure (a_move (r := .p _)) rfl rfl ?_)
    refine arun_nil ?_
    refine thn_n ?_
    refine ⟨m - 1, by omega, _, re_of id _ _ ?_ ?_ rfl, k + 1, by omega, rfl⟩
    · (repeat (first | exact trivial | (refine ⟨⟨(by first | rfl | (simp; done) | (simp; omega)), rfl⟩, ?_⟩)))
    · rw [← g2]
      have : ws = ws.take 4 := (List.take_of_length_le (by omega)).symm
      rw [this, List.take_take]
      exact ⟨⟨rfl, rfl⟩, ⟨rfl, rfl⟩, trivial⟩
  have hge : k = 8 := by simp at h; omega
  clear h
  subst hge
  refine awp_exit (awp_seq ?_)
  refine awp_text (by kernel_rfl) ?_
  (refine r_pure (a_move (r := .row _)) rfl rfl ?_)
  (refine r_pure (a_assign (r := .row _)) rfl rfl ?_)
  (refine r_pure (a_assign (r := .p _)) rfl rfl ?_)
  refine arun_nil ?_
  refine awp_ret ?_
  refine ⟨(by first | exact .inl rfl | exact .inr rfl), _, (fun _ => 10), (.tmp _ _ _ _ rfl (.tmp _ _ _ _ rfl .nil)), ?_, rfl, ?_, rfl⟩
  · exact rfl
  · exact ⟨⟨rfl, rfl⟩, trivial⟩
end Go.Proofs.Ytgbgpidimipfjaa
