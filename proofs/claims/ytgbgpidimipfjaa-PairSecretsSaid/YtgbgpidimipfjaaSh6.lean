/- sha.Sum, over data. -/
import Derived.Test.YtgbgpidimipfjaaSh5
namespace Go.Proofs.Ytgbgpidimipfjaa
open Go.RowKit Go.Sort
set_option linter.unusedVariables false
set_option linter.unusedSimpArgs false
set_option maxRecDepth 100000

theorem vl_cons {K : Nat → Bool} {h : Nat → Slot} {x y : AV} {xs zs : List AV} (h1 : x.view K h = y) (h2 : AV.viewL K h xs = zs) : AV.viewL K h (x :: xs) = y :: zs := by rw [AV.viewL, h1, h2]
theorem vl_psl {h : Nat → Slot} {o off n size n' size' : Nat} {e : TypeId} {cs ys : List PV} {xs zs : List AV} (ho : h o = .live (.row e size' n' cs)) (hl : off + n * size ≤ cs.length) (hy : (cs.drop off).take (n * size) = ys) (h2 : AV.viewL (fun _ => false) h xs = zs) :
    AV.viewL (fun _ => false) h (.psl o off n size :: xs) = .p (.sl n size ys) :: zs := by
  have : sliceView (h o) off n size = .p (.sl n size ys) := by rw [ho]; simp only [sliceView, hl, if_true, hy]
  rw [AV.viewL, h2, AV.view, cond_false, this]
theorem iuA_view (K : Nat → Bool) (h : Nat → Slot) (xs : List Int) : (AV.agg (iu xs)).view K h = .agg (iu xs) := by rw [AV.view, iu_viewL]
theorem bs_cut {xs : List Int} {a b : Nat} : ((bs xs).drop a).take b = bs ((xs.drop a).take b) := by simp [bs, List.map_drop, List.map_take]

def H0 : V8 := ⟨1779033703, 3144134277, 1013904242, 2773480762, 1359893119, 2600822924, 528734635, 1541459225⟩
def sumH (P : List Int) : Nat → V8
  | 0 => H0
  | k + 1 => blk8 (sumH P k) ((P.drop (64 * k)).take 64)
def w4 (x : Int) : List Int := [IntKind.u8.wrap (sr x 24), IntKind.u8.wrap (sr x 16), IntKind.u8.wrap (sr x 8), IntKind.u8.wrap x]
def shaV (xs : List Int) : V8 := sumH (shaPad xs) (padLen xs.length / 64)
/-- the digest -/
def shaD (xs : List Int) : List Int := (shaV xs).l.flatMap w4
def outK (v : V8) (k : Nat) : List Int := (v.l.take k).flatMap w4
theorem outK_next (v : V8) (k : Nat) (hk : k < 8) : outK v k ++ w4 (v.l.getD k 0) = outK v (k + 1) := by
  have hl : k < v.l.length := hk
  rw [outK, outK, List.take_succ_eq_append_getElem hl, List.flatMap_append, List.getD_eq_getElem?_getD, List.getElem?_eq_getElem hl]
  simp
theorem w4_B (x : Int) : isB (w4 x) := by
  intro y hy
  simp only [w4, List.mem_cons, List.not_mem_nil, or_false] at hy
  have h : ∀ z, 0 ≤ IntKind.u8.wrap z ∧ IntKind.u8.wrap z < 256 := fun z => by rw [IntKind.wrap_u8]; omega
  rcases hy with rfl | rfl | rfl | rfl <;> exact h _
theorem shaD_B (xs : List Int) : isB (shaD xs) := by
  intro y hy
  obtain ⟨x, _, h⟩ := List.mem_flatMap.1 hy
  exact w4_B x y h
theorem shaD_len (xs : List Int) : (shaD xs).length = 32 := rfl

set_option maxHeartbeats 2000000 in
theorem sum_s (n : Nat) (xs : List Int) (hn : xs.length = n) (hb : isB xs) : Fn Try.prog 18 [.p (.sl n 1 (bs xs))] (bRes (padE n)) (bNew (padE n) 32 (shaD xs)) := by
  have hP := pad_s n xs hn
  have hpl := shaPad_len xs
  have hpb := shaPad_B hb
  have hv : shaV xs = sumH (shaPad xs) (padLen n / 64) := by unfold shaV; rw [hn]
  have hd : shaD xs = outK (shaV xs) 8 := rfl
  rw [hn] at hpl
  refine fn_intro Try.func18 rfl (Nat.le_of_ble_eq_true rfl) fun w0 A => ?_
  by_cases hbig : 1000 < n
  · have he : padE n = 1 := by unfold padE; rw [if_pos hbig]
    obtain ⟨e1, e2⟩ := bRes_bad (e' := 1) he (by omega) 32 (shaD xs)
    obtain ⟨e3, e4⟩ := bRes_bad (e' := 1) he (by omega) (padLen n) (shaPad xs)
    rw [e3, e4] at hP
    rw [e1, e2]
    refine awp_seq ?_
    refine awp_text (by kernel_rfl) ?_
    (refine r_pure (a_assign (r := .p _)) rfl rfl ?_)
    (refine r_pure (a_assign (r := .p _)) rfl rfl ?_)
    refine arun_nil ?_
    refine awp_seq ?_
    refine awp_text (by kernel_rfl) ?_
    (refine r_pure (a_move (r := .p _)) rfl rfl ?_)
    (refine r_callV (fun n => 13 + 1000 * n) (hP) rfl rfl Try.func55 rfl rfl (by first | rfl | simp [AV.noSl, AV.noSlL, AObj.noSl, PV.isV, bs_noSl]) (by first | rfl | simp [AV.noSl, AV.noSlL, AObj.noSl, PV.isV, bs_noSl]) rfl rfl rfl (by first | exact trivial | exact ⟨rfl, trivial⟩ | exact ⟨rfl, rfl, trivial⟩) rfl rfl rfl ?_)
    (refine r_pure (a_move (r := .tup _)) rfl rfl ?_)
    (refine r_pure (a_extract rfl) rfl rfl ?_)
    (refine r_pure (a_extract rfl) rfl rfl ?_)
    (first | refine r_pure (a_assign (r := .p _)) rfl rfl ?_ | refine r_pure (a_assign (r := .row _)) rfl rfl ?_)
    (refine r_pure (a_assign (r := .p _)) rfl rfl ?_)
    refine arun_nil ?_
    refine awp_seq (awp_seq ?_)
    refine awp_text (by kernel_rfl) ?_
    (refine r_pure (a_move (r := .p _)) rfl rfl ?_)
    (refine r_pure a_neq rfl rfl ?_)
    refine arun_nil ?_
    refine thn_n ?_
    refine awp_cond _ rfl (fun h => ?_) (fun h => ?_)
    · refine awp_seq ?_
      refine awp_text (by kernel_rfl) ?_
      (refine r_pure (a_move (r := .p _)) rfl rfl ?_)
      (refine r_pure (a_assign (r := .p _)) rfl rfl ?_)
      (refine r_pure (a_assign (r := .p _)) rfl rfl ?_)
      refine arun_nil ?_
      refine awp_ret (thn_r ?_)
      refine ⟨(by first | exact .inl rfl | exact .inr rfl), _, (fun o => o), (.tmp _ _ _ _ rfl (.tmp _ _ _ _ rfl .nil)), ?_, rfl, ?_, rfl⟩
      · exact rfl
      · exact trivial
    · cases h
  have he : padE n = 0 := by unfold padE; rw [if_neg hbig]
  obtain ⟨e1, e2⟩ := bRes_good he 32 (shaD xs)
  obtain ⟨e3, e4⟩ := bRes_good he (padLen n) (shaPad xs)
  rw [e3, e4] at hP
  rw [e1, e2]
  have hpd : 64 * (padLen n / 64) = padLen n := by have := padLen_64 n; omega
  have hpm : padLen n ≤ 2000 := by have := padZ_lt n; unfold padLen; omega
  clear e1 e2 e3 e4
  generalize shaPad xs = Pd at hP hpl hpb hv
  rw [hd, hv]
  clear hd hv
  generalize padLen n = pn at hP hpl hpd hpm ⊢
  obtain ⟨nb, hnb⟩ : ∃ nb, pn / 64 = nb := ⟨_, rfl⟩
  rw [hnb] at hpd ⊢
  refine awp_seq ?_
  refine awp_text (by kernel_rfl) ?_
  (refine r_pure (a_assign (r := .p _)) rfl rfl ?_)
  (refine r_pure (a_assign (r := .p _)) rfl rfl ?_)
  refine arun_nil ?_
  refine awp_seq ?_
  refine awp_text (by kernel_rfl) ?_
  (refine r_pure (a_move (r := .p _)) rfl rfl ?_)
  (refine r_callV (fun n => 13 + 1000 * n) (hP) rfl rfl Try.func55 rfl rfl (by first | rfl | simp [AV.noSl, AV.noSlL, AObj.noSl, PV.isV, bs_noSl]) (by first | rfl | simp [AV.noSl, AV.noSlL, AObj.noSl, PV.isV, bs_noSl]) rfl rfl rfl (by first | exact trivial | exact ⟨rfl, trivial⟩ | exact ⟨rfl, rfl, trivial⟩) rfl rfl rfl ?_)
  (refine r_pure (a_move (r := .tup _)) rfl rfl ?_)
  (refine r_pure (a_extract rfl) rfl rfl ?_)
  (refine r_pure (a_extract rfl) rfl rfl ?_)
  (first | refine r_pure (a_assign (r := .p _)) rfl rfl ?_ | refine r_pure (a_assign (r := .row _)) rfl rfl ?_)
  (refine r_pure (a_assign (r := .p _)) rfl rfl ?_)
  refine arun_nil ?_
  refine awp_seq (awp_seq ?_)
  refine awp_text (by kernel_rfl) ?_
  (refine r_pure (a_move (r := .p _)) rfl rfl ?_)
  (refine r_pure a_neq rfl rfl ?_)
  refine arun_nil ?_
  refine thn_n ?_
  refine awp_cond _ rfl (fun h => ?_) (fun h => ?_)
  · cases h
  clear h
  refine awp_skip (awp_seq ?_)
  refine awp_text (by kernel_rfl) ?_
  (refine r_pure (xs := (iu H0.l)) (a_buildA (es := (iu H0.l)) Try.underlying69 zr69 rfl sz23 (by kernel_rfl)) (by first | rfl | kernel_rfl) rfl ?_)
  (refine r_run (a_alloc 6 zr69 rfl) rfl rfl ⟨rfl, trivial⟩ ?_)
  (refine r_run (a_storeAll (Y := .agg _) sz69 rfl (by first | exact Nat.eq_of_beq_eq_true rfl | (simp only [AV.cells, List.length_map]; first | assumption | omega)) (Nat.eq_of_beq_eq_true rfl)) rfl rfl ⟨rfl, trivial⟩ ?_)
  refine arun_nil ?_
  refine awp_seq (awp_seq ?_)
  refine awp_text (by kernel_rfl) ?_
  (refine r_pure (a_assign (r := .p _)) rfl rfl ?_)
  refine arun_nil ?_
  refine awp_block ?_
  refine awp_loopR (fun m st => ∃ k : Nat, m + k = nb ∧ st = St.of [(4, .row 4), (6, .ref 6 0), (7, .p (.v (.int .i64 (64 * k))))] [(4, .row 5 1 pn (bs Pd)), (6, .box 69 (iu (sumH Pd k).l))]) nb ?_ ?_
  · refine ⟨_, re_of (fun o => bif Nat.beq o 4 then 13 else o) _ _ ?_ ?_ rfl, 0, by omega, rfl⟩
    · (repeat (first | exact trivial | (refine ⟨⟨(by first | rfl | (simp; done) | (simp; omega)), rfl⟩, ?_⟩)))
    · exact ⟨⟨rfl, rfl⟩, ⟨iu_live rfl, iu_ok _ _⟩, trivial⟩
  rintro m st ⟨k, hk, rfl⟩
  refine awp_seq (awp_seq ?_)
  refine awp_text (by kernel_rfl) ?_
  (refine r_pure (a_move (r := .p _)) rfl rfl ?_)
  (refine r_pure (a_move (r := .row _)) rfl rfl ?_)
  (refine r_run (a_lenR Try.underlying22) rfl rfl ⟨rfl, trivial⟩ ?_)
  (refine r_pure a_lss rfl rfl ?_)
  refine arun_nil ?_
  refine thn_n ?_
  refine awp_cond _ rfl (fun h => ?_) (fun h => ?_)
  · have hlt : k < nb := by simp at h; omega
    clear h
    have hnx : sumH Pd (k + 1) = blk8 (sumH Pd k) ((Pd.drop (64 * k)).take 64) := rfl
    have hcl : ((Pd.drop (64 * k)).take 64).length = 64 := by rw [List.length_take, List.length_drop]; omega
    have hcb : isB ((Pd.drop (64 * k)).take 64) := fun y hy => hpb y (List.mem_of_mem_drop (List.mem_of_mem_take hy))
    have hcut := bs_cut (xs := Pd) (a := 64 * k) (b := 64 * 1)
    generalize (Pd.drop (64 * k)).take 64 = Bl at hnx hcl hcb hcut
    generalize sumH Pd k = v at hnx ⊢
    refine awp_skip (awp_seq (awp_block ?_))
    refine awp_draw 4 (by kernel_rfl) ?_
    (refine r_run (a_loadN Try.underlying69 rfl sz69 (by first | exact Nat.le_of_ble_eq_true rfl | omega | (simp only [AV.cells, List.length_map]; omega)) (by first | exact take_all (by first | assumption | exact Nat.eq_of_beq_eq_true rfl | (simp only [AV.cells, List.length_map]; first | assumption | omega)) | (simp only [List.take_succ_cons, List.take_zero, List.drop_succ_cons, List.drop_zero]; rfl) | rfl)) rfl rfl ⟨rfl, trivial⟩ ?_)
    (refine r_pure (a_move (r := .row _)) rfl rfl ?_)
    (refine r_pure (a_move (r := .p _)) rfl rfl ?_)
    (refine r_pure (a_move (r := .p _)) rfl rfl ?_)
    (refine r_pure (a_add (by first | exact IntWalk.i64_in _ (by omega) | rfl)) rfl rfl ?_)
    (refine r_run (a_sliceR (L := (some (_, _))) (H := (some (_, _))) Try.underlying22 sz5 ⟨by omega, (show _ = 64 * k by omega)⟩ ⟨by omega, (show _ = 64 * k + 64 by omega)⟩ (by omega) (by omega) (show _ = 64 by omega) (show _ = 64 * k by omega)) rfl rfl ⟨rfl, trivial⟩ ?_)
    (refine r_callV (fun n => 32 + 1000 * n) (block_s v Bl hcl hcb) rfl (vl_cons (iuA_view _ _ _) (vl_psl rfl (by rw [bs_length]; omega) hcut rfl)) Try.func56 rfl rfl (by first | rfl | simp [AV.noSl, AV.noSlL, AObj.noSl, PV.isV, bs_noSl]) (by first | rfl | simp [AV.noSl, AV.noSlL, AObj.noSl, PV.isV, bs_noSl]) rfl rfl rfl (by first | exact trivial | exact ⟨rfl, trivial⟩ | exact ⟨rfl, rfl, trivial⟩) rfl rfl rfl ?_)
    (refine r_run (a_storeAll (Y := .agg _) sz69 rfl (by first | exact Nat.eq_of_beq_eq_true rfl | (simp only [AV.cells, List.length_map]; first | assumption | omega)) (Nat.eq_of_beq_eq_true rfl)) rfl rfl ⟨rfl, trivial⟩ ?_)
    refine arun_nil ⟨by kernel_rfl, ?_⟩
    refine inb_n (thn_n ?_)
    refine awp_text (by kernel_rfl) ?_
    (refine r_pure (a_move (r := .p _)) rfl rfl ?_)
    (refine r_pure (a_add (by first | exact IntWalk.i64_in _ (by omega) | rfl)) rfl rfl ?_)
    (refine r_pure (a_assign (r := .p _)) rfl rfl ?_)
    refine arun_nil ?_
    refine thn_n ?_
    refine ⟨m - 1, by omega, _, re_of id _ _ ?_ ?_ rfl, k + 1, by omega, rfl⟩
    · refine ⟨⟨rfl, rfl⟩, ⟨rfl, rfl⟩, ⟨?_, rfl⟩, trivial⟩
      show AV.p (.v (.int .i64 (64 * (k : Int) + 64))) = AV.p (.v (.int .i64 (64 * ((k + 1 : Nat) : Int))))
      congr 3 <;> omega
    · rw [hnx]
      exact ⟨⟨rfl, rfl⟩, ⟨iu_live rfl, iu_ok _ _⟩, trivial⟩
  have hge : k = nb := by simp at h; omega
  clear h
  subst hge
  generalize sumH Pd k = v
  refine awp_exit (awp_seq ?_)
  refine awp_text (by kernel_rfl) ?_
  (refine r_run (a_make0 33 Try.underlying22 eo5 (by omega) (by omega) (by simp only [maxLen]; omega)) rfl rfl ⟨rfl, trivial⟩ ?_)
  (refine r_pure (a_assign (r := .row _)) rfl rfl ?_)
  refine arun_nil ?_
  refine awp_seq (awp_seq ?_)
  refine awp_text (by kernel_rfl) ?_
  (refine r_run (a_loadN Try.underlying69 rfl sz69 (by first | exact Nat.le_of_ble_eq_true rfl | omega | (simp only [AV.cells, List.length_map]; omega)) (by first | exact take_all (by first | assumption | exact Nat.eq_of_beq_eq_true rfl | (simp only [AV.cells, List.length_map]; first | assumption | omega)) | (simp only [List.take_succ_cons, List.take_zero, List.drop_succ_cons, List.drop_zero]; rfl) | rfl)) rfl rfl ⟨rfl, trivial⟩ ?_)
  (refine r_pure (a_move (r := .p _)) rfl rfl ?_)
  refine arun_nil ?_
  refine awp_block ?_
  refine awp_loopR (fun m st => ∃ k : Nat, m + k = 8 ∧ st = St.of [(8, .row 8), (34, .agg (iu v.l)), (35, .p (.v (.int .i64 k)))] [(8, .row 5 1 (4 * k) (bs (outK v k)))]) 8 ?_ ?_
  · refine ⟨_, re_of (fun _ => 33) _ _ ?_ ?_ rfl, 0, by omega, rfl⟩
    · (repeat (first | exact trivial | (refine ⟨⟨(by first | rfl | (simp; done) | (simp; omega)), rfl⟩, ?_⟩)))
    · exact ⟨⟨rfl, rfl⟩, trivial⟩
  rintro m st ⟨k, hk, rfl⟩
  refine awp_seq ?_
  refine awp_text (by kernel_rfl) ?_
  (refine r_pure a_lss rfl rfl ?_)
  refine arun_nil ?_
  refine awp_seq ?_
  refine awp_cond _ rfl (fun h => ?_) (fun h => ?_)
  · have hlt : k < 8 := by simp at h; omega
    clear h
    have g1 := iu_getD (xs := v.l) (i := k) hlt
    have g2 := outK_next v k hlt
    generalize v.l.getD k 0 = x at g1 g2
    refine awp_skip (awp_seq (awp_block (awp_seq ?_)))
    refine awp_text (by kernel_rfl) ?_
    (refine r_pure (a_index1 Try.underlying69 sz23 Try.underlying23 rfl (by omega) (by omega) (by first | rfl | assumption | ((try simp only [Int.toNat_natCast, Nat.mul_one, Nat.add_zero, Nat.zero_add]); first | assumption | rfl))) rfl rfl ?_)
    (refine r_pure (a_assign (r := .p _)) rfl rfl ?_)
    refine arun_nil ?_
    refine thn_n ?_
    refine awp_text (by kernel_rfl) ?_
    (refine r_pure (a_move (r := .row _)) rfl rfl ?_)
    (refine r_pure (a_move (r := .p _)) rfl rfl ?_)
    (refine r_pure (a_shr (by omega) rfl) rfl rfl ?_)
    (refine r_pure (a_conv Try.underlying23 Try.underlying5 (by first | exact IntWalk.u8_in _ (by omega) | rfl)) rfl rfl ?_)
    (refine r_pure (a_move (r := .p _)) rfl rfl ?_)
    (refine r_pure (a_shr (by omega) rfl) rfl rfl ?_)
    (refine r_pure (a_conv Try.underlying23 Try.underlying5 (by first | exact IntWalk.u8_in _ (by omega) | rfl)) rfl rfl ?_)
    (refine r_pure (a_move (r := .p _)) rfl rfl ?_)
    (refine r_pure (a_shr (by omega) rfl) rfl rfl ?_)
    (refine r_pure (a_conv Try.underlying23 Try.underlying5 (by first | exact IntWalk.u8_in _ (by omega) | rfl)) rfl rfl ?_)
    (refine r_pure (a_move (r := .p _)) rfl rfl ?_)
    (refine r_pure (a_conv Try.underlying23 Try.underlying5 (by first | exact IntWalk.u8_in _ (by omega) | rfl)) rfl rfl ?_)
    (refine r_run (xs := ((bs (w4 x)).map AV.p)) (a_buildSlice (es := ((bs (w4 x)).map AV.p)) (cs := (bs (w4 x))) 50 Try.underlying22 sz5 zc5 (Nat.le_of_ble_eq_true rfl) (Nat.le_of_ble_eq_true rfl) rfl (by kernel_rfl) (by kernel_rfl) (by kernel_rfl) (Nat.le_of_ble_eq_true rfl)) (by first | rfl | kernel_rfl) rfl ⟨rfl, trivial⟩ ?_)
    (refine r_run (a_append 51 Try.underlying22 eo5 (src_row) (by simp only [maxLen]; omega) (by omega) (show _ = 4 * (k + 1) by omega) rfl) rfl rfl ⟨rfl, rfl, rfl, trivial⟩ ?_)
    (refine r_pure (a_assign (r := .row _)) rfl rfl ?_)
    refine arun_nil ?_
    refine inb_n (thn_n ?_)
    refine awp_text (by kernel_rfl) ?_
    (refine r_pure (a_add (by first | exact IntWalk.i64_in _ (by omega) | rfl)) rfl rfl ?_)
    (refine r_pure (a_move (r := .p _)) rfl rfl ?_)
    refine arun_nil ?_
    refine thn_n ?_
    refine ⟨m - 1, by omega, _, re_of (fun _ => 51) _ _ ?_ ?_ rfl, k + 1, by omega, rfl⟩
    · (repeat (first | exact trivial | (refine ⟨⟨(by first | rfl | (simp; done) | (simp; omega)), rfl⟩, ?_⟩)))
    · rw [← g2, bs_append]
      exact ⟨⟨rfl, rfl⟩, trivial⟩
  have hge : k = 8 := by simp at h; omega
  clear h
  subst hge
  refine awp_exit (awp_seq ?_)
  refine awp_text (by kernel_rfl) ?_
  (refine r_pure (a_move (r := .row _)) rfl rfl ?_)
  (refine r_pure (a_assign (r := .row _)) rfl rfl ?_)
  (refine r_pure (a_assign (r := .p _)) rfl rfl ?_)
  refine arun_nil ?_
  refine awp_ret ?_
  refine ⟨(by first | exact .inl rfl | exact .inr rfl), _, (fun _ => 8), (.tmp _ _ _ _ rfl (.tmp _ _ _ _ rfl .nil)), ?_, rfl, ?_, rfl⟩
  · exact rfl
  · exact ⟨⟨rfl, rfl⟩, trivial⟩
end Go.Proofs.Ytgbgpidimipfjaa
