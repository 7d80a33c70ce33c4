/- The reference's MacTag and the law MacTags, over data. -/
import Derived.Test.YtmdkfhmmhiofbaaMc1
namespace Go.Proofs.Ytmdkfhmmhiofbaa
open Go.RowKit Go.Sort
set_option linter.unusedVariables false
set_option linter.unusedSimpArgs false
set_option maxRecDepth 100000

def kx (ks : List Int) (c : Int) (i : Nat) : List Int := ((kz ks).take i).map fun x => xb x c
theorem kx_len {ks : List Int} (c : Int) {i : Nat} (h : ks.length = 32) (hi : i ≤ 64) : (kx ks c i).length = i := by
  have := kz_len h
  simp [kx]; omega
theorem kx_next {ks : List Int} {c : Int} {i : Nat} {x : Int} (h : (kz ks)[i]? = some x) : kx ks c (i + 1) = kx ks c i ++ [xb x c] := by
  have hk := (List.getElem?_eq_some_iff.1 h).1
  have e := (List.getElem?_eq_some_iff.1 h).2
  rw [kx, List.take_succ_eq_append_getElem hk, List.map_append, e]; rfl
theorem kx_full {ks : List Int} (c : Int) (h : ks.length = 32) : kx ks c 64 = kyd ks c := by
  rw [kx, List.take_of_length_le (by rw [kz_len h]; omega)]; rfl

set_option maxHeartbeats 2000000 in
theorem refTag_s (s : ByteArray) (n : Nat) (b : List Int) (hn : b.length = n) (hb : isB b) : Fn Try.prog 40 [.p (.v (.string s)), .p (.sl n 1 (bs b))] (bRes (macE s n)) (bNew (macE s n) 32 (macD s b)) := by
  refine fn_intro Try.func40 rfl (Nat.le_of_ble_eq_true rfl) fun w0 A => ?_
  refine awp_seq ?_
  refine awp_text (by kernel_rfl) ?_
  (refine r_pure (a_assign (r := .p _)) rfl rfl ?_)
  (refine r_pure (a_assign (r := .p _)) rfl rfl ?_)
  refine arun_nil ?_
  refine awp_seq (awp_seq ?_)
  refine awp_text (by kernel_rfl) ?_
  (refine r_pure (a_move (r := .p _)) rfl rfl ?_)
  (refine r_callV (fun n => 16 + 1000 * n) (refFault_s s) rfl rfl Try.func43 rfl rfl (by first | rfl | simp [AV.noSl, AV.noSlL, AObj.noSl, PV.isV, bs_noSl]) (by first | rfl | simp [AV.noSl, AV.noSlL, AObj.noSl, PV.isV, bs_noSl]) rfl rfl rfl (by first | exact trivial | exact ⟨rfl, trivial⟩ | exact ⟨rfl, rfl, trivial⟩) rfl rfl rfl ?_)
  (refine r_pure (a_assign (r := .p _)) rfl rfl ?_)
  refine arun_nil ?_
  refine awp_seq ?_
  refine awp_text (by kernel_rfl) ?_
  (refine r_pure (a_move (r := .p _)) rfl rfl ?_)
  (refine r_pure a_neq rfl rfl ?_)
  refine arun_nil ?_
  refine thn_n ?_
  refine awp_cond _ rfl (fun h => ?_) (fun h => ?_)
  · have h2 : keyE s ≠ 0 := by simpa using h
    obtain ⟨e1, e2⟩ := bRes_bad (show macE s n = keyE s by unfold macE; rw [if_neg h2]) h2 32 (macD s b)
    rw [e1, e2]
    refine awp_seq ?_
    refine awp_text (by kernel_rfl) ?_
    (refine r_pure (a_move (r := .p _)) rfl rfl ?_)
    (refine r_pure (a_assign (r := .p _)) rfl rfl ?_)
    (refine r_pure (a_assign (r := .p _)) rfl rfl ?_)
    refine arun_nil ?_
    refine awp_ret (thn_r ?_)
    refine ⟨(by first | exact .inl rfl | exact .inr rfl), _, (fun o => o), (.tmp _ _ _ _ rfl (.tmp _ _ _ _ rfl .nil)), ?_, rfl, ?_, rfl⟩
    · exact rfl
    · exact trivial
  have h2 : keyE s = 0 := by simpa using h
  clear h
  refine awp_skip (awp_seq (awp_seq ?_))
  refine awp_text (by kernel_rfl) ?_
  (refine r_pure (a_move (r := .p _)) rfl rfl ?_)
  (refine r_pure (a_lenS Try.underlying22) rfl rfl ?_)
  (refine r_pure a_gtr rfl rfl ?_)
  refine arun_nil ?_
  refine thn_n ?_
  refine awp_cond _ rfl (fun h => ?_) (fun h => ?_)
  · have h3 : 936 < n := by simp at h; omega
    obtain ⟨e1, e2⟩ := bRes_bad (show macE s n = 1 by unfold macE; rw [if_pos h2, if_pos h3]) (by omega) 32 (macD s b)
    rw [e1, e2]
    refine awp_seq ?_
    refine awp_text (by kernel_rfl) ?_
    (refine r_pure (a_assign (r := .p _)) rfl rfl ?_)
    (refine r_pure (a_assign (r := .p _)) rfl rfl ?_)
    refine arun_nil ?_
    refine awp_ret (thn_r ?_)
    refine ⟨(by first | exact .inl rfl | exact .inr rfl), _, (fun o => o), (.tmp _ _ _ _ rfl (.tmp _ _ _ _ rfl .nil)), ?_, rfl, ?_, rfl⟩
    · exact rfl
    · exact trivial
  have h3 : n ≤ 936 := by simp at h; omega
  clear h
  obtain ⟨e1, e2⟩ := bRes_good (show macE s n = 0 by unfold macE; rw [if_pos h2, if_neg (by omega)]) 32 (macD s b)
  rw [e1, e2]
  clear e1 e2
  obtain ⟨hsz, hE⟩ := keyE_good h2
  have hH := refBytes_s s
  obtain ⟨e1, e2⟩ := hexRes_good hE
  rw [e1, e2, hsz] at hH
  clear e1 e2
  have hkl : (hexVals s 32).length = 32 := hexVals_len s 32
  have hl1 := kyd_len 54 hkl
  have hl2 := kyd_len 92 hkl
  have hb1 := kyd_B (hexVals s 32) 54
  have hb2 := kyd_B (hexVals s 32) 92
  have hf1 := kx_full 54 hkl
  have hf2 := kx_full 92 hkl
  unfold macD
  change Fn Try.prog 22 _ _ [(0, .row 5 1 32 (bs (hexVals s 32)))] at hH
  generalize hexVals s 32 = K at hH hkl hl1 hl2 hb1 hb2 hf1 hf2 ⊢
  generalize kyd K 54 = K1 at hl1 hb1 hf1 ⊢
  generalize kyd K 92 = K2 at hl2 hb2 hf2 ⊢
  have hs1 := refSum_s (64 + n) (K1 ++ b) (by rw [List.length_append]; omega) (isB_app hb1 hb)
  obtain ⟨e1, e2⟩ := bRes_good (show padE (64 + n) = 0 by unfold padE; rw [if_neg (by omega)]) 32 (shaD (K1 ++ b))
  rw [e1, e2, ← bs_appd] at hs1
  clear e1 e2
  have hD := shaD_B (K1 ++ b)
  have hDl := shaD_len (K1 ++ b)
  generalize shaD (K1 ++ b) = D at hs1 hD hDl ⊢
  have hs2 := refSum_s (64 + 32) (K2 ++ D) (by rw [List.length_append]; omega) (isB_app hb2 hD)
  obtain ⟨e1, e2⟩ := bRes_good (show padE (64 + 32) = 0 from rfl) 32 (shaD (K2 ++ D))
  rw [e1, e2, ← bs_appd] at hs2
  clear e1 e2
  generalize shaD (K2 ++ D) = E at hs2 ⊢
  have hzl := kz_len hkl
  refine awp_skip (awp_seq ?_)
  refine awp_text (by kernel_rfl) ?_
  (refine r_pure (a_move (r := .p _)) rfl rfl ?_)
  (refine r_callV (fun n => 25 + 1000 * n) (hH) rfl rfl Try.func22 rfl rfl (by first | rfl | simp [AV.noSl, AV.noSlL, AObj.noSl, PV.isV, bs_noSl]) (by first | rfl | simp [AV.noSl, AV.noSlL, AObj.noSl, PV.isV, bs_noSl]) rfl rfl rfl (by first | exact trivial | exact ⟨rfl, trivial⟩ | exact ⟨rfl, rfl, trivial⟩) rfl rfl rfl ?_)
  (refine r_pure (a_move (r := .tup _)) rfl rfl ?_)
  (refine r_pure (a_extract rfl) rfl rfl ?_)
  (refine r_pure (a_extract rfl) rfl rfl ?_)
  (refine r_pure (a_assign (r := .row _)) rfl rfl ?_)
  (refine r_pure (a_assign (r := .p _)) rfl rfl ?_)
  refine arun_nil ?_
  refine awp_seq ?_
  refine awp_text (by kernel_rfl) ?_
  (refine r_pure (a_assign (r := .p _)) rfl rfl ?_)
  (refine r_pure (a_assign (r := .p _)) rfl rfl ?_)
  refine arun_nil ?_
  refine awp_seq (awp_seq ?_)
  refine awp_re (re_nil 9 9 5 1 rfl rfl) ?_
  refine awp_re (re_nil 10 10 5 1 rfl rfl) ?_
  refine awp_text (by kernel_rfl) ?_
  (refine r_pure (a_assign (r := .p _)) rfl rfl ?_)
  refine arun_nil ?_
  refine awp_block ?_
  refine awp_loopR (fun m st => ∃ i : Nat, m + i = 64 ∧ st = St.of [(1, .p (.sl n 1 (bs b))), (7, .row 7), (9, .row 9), (10, .row 10), (11, .p (.v (.int .i64 i)))] [(7, .row 5 1 32 (bs K)), (9, .row 5 1 i (bs (kx K 54 i))), (10, .row 5 1 i (bs (kx K 92 i)))]) 64 ?_ ?_
  · refine ⟨_, re_of (fun o => bif Nat.beq o 7 then 25 else o) _ _ ?_ ?_ rfl, 0, by omega, rfl⟩
    · (repeat (first | exact trivial | (refine ⟨⟨(by first | rfl | (simp; done) | (simp; omega)), rfl⟩, ?_⟩)))
    · exact ⟨⟨rfl, rfl⟩, ⟨rfl, rfl⟩, ⟨rfl, rfl⟩, trivial⟩
  rintro m st ⟨i, hi, rfl⟩
  refine awp_seq (awp_seq ?_)
  refine awp_text (by kernel_rfl) ?_
  (refine r_pure (a_move (r := .p _)) rfl rfl ?_)
  (refine r_pure a_lss rfl rfl ?_)
  refine arun_nil ?_
  refine thn_n ?_
  refine awp_cond _ rfl (fun h => ?_) (fun h => ?_)
  · have hlt : i < 64 := by simp at h; omega
    clear h
    obtain ⟨x, hx⟩ : ∃ x, (kz K)[i]? = some x := ⟨(kz K)[i]'(by omega), List.getElem?_eq_getElem (by omega)⟩
    have n1 := kx_next (c := 54) hx
    have n2 := kx_next (c := 92) hx
    refine awp_skip (awp_seq (awp_block (awp_seq ?_)))
    refine awp_text (by kernel_rfl) ?_
    (refine r_pure (a_assign (r := .p _)) rfl rfl ?_)
    refine arun_nil ?_
    refine awp_seq (awp_seq ?_)
    refine awp_text (by kernel_rfl) ?_
    (refine r_pure (a_move (r := .p _)) rfl rfl ?_)
    (refine r_pure a_lss rfl rfl ?_)
    refine arun_nil ?_
    refine thn_n ?_
    refine awp_cond _ rfl (fun h => ?_) (fun h => ?_)
    · have h32 : i < 32 := by simp at h; omega
      clear h
      have hxk : K[i]? = some x := by rw [kz, List.getElem?_append_left (by omega)] at hx; exact hx
      have g1 := bs_at hxk
      skip
      refine awp_text (by kernel_rfl) ?_
      (refine r_pure (a_move (r := .row _)) rfl rfl ?_)
      (refine r_pure (a_move (r := .p _)) rfl rfl ?_)
      (refine r_run (a_indexAddrR Try.underlying22 sz5 (by omega) (by omega) (show _ = i by omega)) rfl rfl ⟨rfl, trivial⟩ ?_)
      (refine r_run (a_load1r Try.underlying5 rfl g1) rfl rfl ⟨rfl, trivial⟩ ?_)
      (refine r_pure (a_assign (r := .p _)) rfl rfl ?_)
      refine arun_nil ?_
      refine awp_seq ?_
      refine awp_text (by kernel_rfl) ?_
      (refine r_pure (a_move (r := .row _)) rfl rfl ?_)
      (refine r_pure (a_move (r := .p _)) rfl rfl ?_)
      (refine r_pure (a_bits (by simp) (show _ = xb x 54 from rfl)) rfl rfl ?_)
      (refine r_run (xs := [.p (.v (.int .u8 (xb x 54)))]) (a_buildSlice (es := [.p (.v (.int .u8 (xb x 54)))]) (cs := [.v (.int .u8 (xb x 54))]) 41 Try.underlying22 sz5 zc5 (Nat.le_of_ble_eq_true rfl) (Nat.le_of_ble_eq_true rfl) rfl (by kernel_rfl) (by kernel_rfl) (by kernel_rfl) (Nat.le_of_ble_eq_true rfl)) (by first | rfl | kernel_rfl) rfl ⟨rfl, trivial⟩ ?_)
      (refine r_run (a_append 42 Try.underlying22 eo5 (src_row) (by simp only [maxLen]; omega) (by omega) rfl rfl) rfl rfl ⟨rfl, rfl, rfl, trivial⟩ ?_)
      (refine r_pure (a_assign (r := .row _)) rfl rfl ?_)
      refine arun_nil ?_
      refine thn_n ?_
      refine awp_text (by kernel_rfl) ?_
      (refine r_pure (a_move (r := .row _)) rfl rfl ?_)
      (refine r_pure (a_move (r := .p _)) rfl rfl ?_)
      (refine r_pure (a_bits (by simp) (show _ = xb x 92 from rfl)) rfl rfl ?_)
      (refine r_run (xs := [.p (.v (.int .u8 (xb x 92)))]) (a_buildSlice (es := [.p (.v (.int .u8 (xb x 92)))]) (cs := [.v (.int .u8 (xb x 92))]) 46 Try.underlying22 sz5 zc5 (Nat.le_of_ble_eq_true rfl) (Nat.le_of_ble_eq_true rfl) rfl (by kernel_rfl) (by kernel_rfl) (by kernel_rfl) (Nat.le_of_ble_eq_true rfl)) (by first | rfl | kernel_rfl) rfl ⟨rfl, trivial⟩ ?_)
      (refine r_run (a_append 47 Try.underlying22 eo5 (src_row) (by simp only [maxLen]; omega) (by omega) rfl rfl) rfl rfl ⟨rfl, rfl, rfl, trivial⟩ ?_)
      (refine r_pure (a_assign (r := .row _)) rfl rfl ?_)
      refine arun_nil ?_
      refine inb_n (thn_n ?_)
      refine awp_text (by kernel_rfl) ?_
      (refine r_pure (a_move (r := .p _)) rfl rfl ?_)
      (refine r_pure (a_add (by first | exact IntWalk.i64_in _ (by omega) | rfl)) rfl rfl ?_)
      (refine r_pure (a_assign (r := .p _)) rfl rfl ?_)
      refine arun_nil ?_
      refine thn_n ?_
      refine ⟨m - 1, by omega, _, re_of (fun o => bif Nat.beq o 9 then 42 else bif Nat.beq o 10 then 47 else o) _ _ ?_ ?_ rfl, i + 1, by omega, rfl⟩
      · (repeat (first | exact trivial | (refine ⟨⟨(by first | rfl | (simp; done) | (simp; omega)), rfl⟩, ?_⟩)))
      · rw [n1, n2, ← bs_push, ← bs_push]
        exact ⟨⟨rfl, rfl⟩, ⟨rfl, rfl⟩, ⟨rfl, rfl⟩, trivial⟩
    · have h32 : 32 ≤ i := by simp at h; omega
      clear h
      have hx0 : x = 0 := by
        rw [kz, List.getElem?_append_right (by omega)] at hx
        exact List.eq_of_mem_replicate (List.mem_of_getElem? hx)
      subst hx0
      refine awp_skip (awp_seq ?_)
      refine awp_text (by kernel_rfl) ?_
      (refine r_pure (a_move (r := .row _)) rfl rfl ?_)
      (refine r_pure (a_move (r := .p _)) rfl rfl ?_)
      (refine r_pure (a_bits (by simp) (show _ = xb 0 54 from rfl)) rfl rfl ?_)
      (refine r_run (xs := [.p (.v (.int .u8 (xb 0 54)))]) (a_buildSlice (es := [.p (.v (.int .u8 (xb 0 54)))]) (cs := [.v (.int .u8 (xb 0 54))]) 41 Try.underlying22 sz5 zc5 (Nat.le_of_ble_eq_true rfl) (Nat.le_of_ble_eq_true rfl) rfl (by kernel_rfl) (by kernel_rfl) (by kernel_rfl) (Nat.le_of_ble_eq_true rfl)) (by first | rfl | kernel_rfl) rfl ⟨rfl, trivial⟩ ?_)
      (refine r_run (a_append 42 Try.underlying22 eo5 (src_row) (by simp only [maxLen]; omega) (by omega) rfl rfl) rfl rfl ⟨rfl, rfl, rfl, trivial⟩ ?_)
      (refine r_pure (a_assign (r := .row _)) rfl rfl ?_)
      refine arun_nil ?_
      refine thn_n ?_
      refine awp_text (by kernel_rfl) ?_
      (refine r_pure (a_move (r := .row _)) rfl rfl ?_)
      (refine r_pure (a_move (r := .p _)) rfl rfl ?_)
      (refine r_pure (a_bits (by simp) (show _ = xb 0 92 from rfl)) rfl rfl ?_)
      (refine r_run (xs := [.p (.v (.int .u8 (xb 0 92)))]) (a_buildSlice (es := [.p (.v (.int .u8 (xb 0 92)))]) (cs := [.v (.int .u8 (xb 0 92))]) 46 Try.underlying22 sz5 zc5 (Nat.le_of_ble_eq_true rfl) (Nat.le_of_ble_eq_true rfl) rfl (by kernel_rfl) (by kernel_rfl) (by kernel_rfl) (Nat.le_of_ble_eq_true rfl)) (by first | rfl | kernel_rfl) rfl ⟨rfl, trivial⟩ ?_)
      (refine r_run (a_append 47 Try.underlying22 eo5 (src_row) (by simp only [maxLen]; omega) (by omega) rfl rfl) rfl rfl ⟨rfl, rfl, rfl, trivial⟩ ?_)
      (refine r_pure (a_assign (r := .row _)) rfl rfl ?_)
      refine arun_nil ?_
      refine inb_n (thn_n ?_)
      refine awp_text (by kernel_rfl) ?_
      (refine r_pure (a_move (r := .p _)) rfl rfl ?_)
      (refine r_pure (a_add (by first | exact IntWalk.i64_in _ (by omega) | rfl)) rfl rfl ?_)
      (refine r_pure (a_assign (r := .p _)) rfl rfl ?_)
      refine arun_nil ?_
      refine thn_n ?_
      refine ⟨m - 1, by omega, _, re_of (fun o => bif Nat.beq o 9 then 42 else bif Nat.beq o 10 then 47 else o) _ _ ?_ ?_ rfl, i + 1, by omega, rfl⟩
      · (repeat (first | exact trivial | (refine ⟨⟨(by first | rfl | (simp; done) | (simp; omega)), rfl⟩, ?_⟩)))
      · rw [n1, n2, ← bs_push, ← bs_push]
        exact ⟨⟨rfl, rfl⟩, ⟨rfl, rfl⟩, ⟨rfl, rfl⟩, trivial⟩
  have hge : i = 64 := by simp at h; omega
  clear h
  subst hge
  rw [hf1, hf2]
  refine awp_exit (awp_seq ?_)
  refine awp_text (by kernel_rfl) ?_
  (refine r_pure (a_move (r := .row _)) rfl rfl ?_)
  (refine r_pure (a_move (r := .p _)) rfl rfl ?_)
  (refine r_run (a_append 51 Try.underlying22 eo5 (src_sl) (by simp only [maxLen]; omega) (by omega) rfl rfl) rfl rfl ⟨rfl, rfl, trivial⟩ ?_)
  (refine r_callV (fun n => 52 + 1000 * n) (hs1) rfl rfl Try.func44 rfl rfl (by first | rfl | simp [AV.noSl, AV.noSlL, AObj.noSl, PV.isV, bs_noSl]) (by first | rfl | simp [AV.noSl, AV.noSlL, AObj.noSl, PV.isV, bs_noSl]) rfl rfl rfl (by first | exact trivial | exact ⟨rfl, trivial⟩ | exact ⟨rfl, rfl, trivial⟩) rfl rfl rfl ?_)
  (refine r_pure (a_move (r := .tup _)) rfl rfl ?_)
  (refine r_pure (a_extract rfl) rfl rfl ?_)
  (refine r_pure (a_extract rfl) rfl rfl ?_)
  (refine r_pure (a_assign (r := .row _)) rfl rfl ?_)
  (refine r_pure (a_assign (r := .p _)) rfl rfl ?_)
  refine arun_nil ?_
  refine awp_seq ?_
  refine awp_text (by kernel_rfl) ?_
  (refine r_pure (a_move (r := .row _)) rfl rfl ?_)
  (refine r_pure (a_move (r := .row _)) rfl rfl ?_)
  (refine r_run (a_append 57 Try.underlying22 eo5 (src_row) (by simp only [maxLen]; omega) (by omega) rfl rfl) rfl rfl ⟨rfl, rfl, rfl, trivial⟩ ?_)
  (refine r_callV (fun n => 58 + 1000 * n) (hs2) rfl rfl Try.func44 rfl rfl (by first | rfl | simp [AV.noSl, AV.noSlL, AObj.noSl, PV.isV, bs_noSl]) (by first | rfl | simp [AV.noSl, AV.noSlL, AObj.noSl, PV.isV, bs_noSl]) rfl rfl rfl (by first | exact trivial | exact ⟨rfl, trivial⟩ | exact ⟨rfl, rfl, trivial⟩) rfl rfl rfl ?_)
  (refine r_pure (a_extract rfl) rfl rfl ?_)
  (refine r_pure (a_extract rfl) rfl rfl ?_)
  (refine r_pure (a_assign (r := .row _)) rfl rfl ?_)
  (refine r_pure (a_assign (r := .p _)) rfl rfl ?_)
  refine arun_nil ?_
  refine awp_ret ?_
  refine ⟨(by first | exact .inl rfl | exact .inr rfl), _, (fun _ => 58), (.tmp _ _ _ _ rfl (.tmp _ _ _ _ rfl .nil)), ?_, rfl, ?_, rfl⟩
  · exact rfl
  · exact ⟨⟨rfl, rfl⟩, trivial⟩

end Go.Proofs.Ytmdkfhmmhiofbaa
