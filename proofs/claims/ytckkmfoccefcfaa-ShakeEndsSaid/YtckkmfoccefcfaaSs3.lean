/- The reference's SealStream and the law SealStreams, over data. -/
import Derived.Test.YtckkmfoccefcfaaSs2
import Derived.Test.YtckkmfoccefcfaaStb
namespace Go.Proofs.Ytckkmfoccefcfaa
open Go.RowKit Go.Sort
set_option linter.unusedVariables false
set_option linter.unusedSimpArgs false
set_option maxRecDepth 100000

theorem blkS_len (s : ByteArray) (c j : Nat) : (blkS s c j).length = 32 := macD_len _ _
theorem strm_at (s : ByteArray) (c : Nat) : ∀ (J i : Nat), i < 32 * J → (strm s c J)[i]? = (blkS s c (i / 32))[i % 32]?
  | 0, i, h => by omega
  | J + 1, i, h => by
    rw [strm_succ]
    by_cases h2 : i < 32 * J
    · rw [List.getElem?_append_left (by rw [strm_len]; exact h2)]
      exact strm_at s c J i h2
    · rw [List.getElem?_append_right (by rw [strm_len]; omega), strm_len, show i - 32 * J = i % 32 by omega, show i / 32 = J by omega]
def bbS (s : ByteArray) (c i : Nat) : List Int := if i = 0 then [] else blkS s c ((i - 1) / 32)
def blS (i : Nat) : Nat := if i = 0 then 0 else 32

set_option maxHeartbeats 2000000 in
theorem refStream_s (s : ByteArray) (c n : Int) : Fn Try.prog 112 [.p (.v (.string s)), .p (.v (.int .i64 c)), .p (.v (.int .i64 n))] (bRes (strE s c n)) (bNew (strE s c n) n.toNat (strD s c n)) := by
  refine fn_intro Try.func112 rfl (Nat.le_of_ble_eq_true rfl) fun w0 A => ?_
  refine awp_seq ?_
  refine awp_text (by kernel_rfl) ?_
  (refine r_pure (a_assign (r := .p _)) rfl rfl ?_)
  (refine r_pure (a_assign (r := .p _)) rfl rfl ?_)
  refine arun_nil ?_
  refine awp_seq (awp_seq ?_)
  refine awp_text (by kernel_rfl) ?_
  (refine r_pure (a_move (r := .p _)) rfl rfl ?_)
  (refine r_callV (fun n => 13 + 1000 * n) (refFault_s s) rfl rfl Try.func69 rfl rfl (by first | rfl | simp [AV.noSl, AV.noSlL, AObj.noSl, PV.isV, bs_noSl]) (by first | rfl | simp [AV.noSl, AV.noSlL, AObj.noSl, PV.isV, bs_noSl]) rfl rfl rfl (by first | exact trivial | exact ⟨rfl, trivial⟩ | exact ⟨rfl, rfl, trivial⟩) rfl rfl rfl ?_)
  (refine r_pure (a_assign (r := .p _)) rfl rfl ?_)
  refine arun_nil ?_
  refine awp_seq ?_
  refine awp_text (by kernel_rfl) ?_
  (refine r_pure (a_move (r := .p _)) rfl rfl ?_)
  (refine r_pure a_neq rfl rfl ?_)
  refine arun_nil ?_
  refine thn_n ?_
  refine awp_cond _ rfl (fun h => ?_) (fun h => ?_)
  · have h2 : keyE s ≠ 0 := by simpa using h
    obtain ⟨e1, e2⟩ := bRes_bad (show strE s c n = keyE s by unfold strE; rw [if_neg h2]) h2 n.toNat (strD s c n)
    rw [e1, e2]
    refine awp_seq ?_
    refine awp_text (by kernel_rfl) ?_
    (refine r_pure (a_move (r := .p _)) rfl rfl ?_)
    (refine r_pure (a_assign (r := .p _)) rfl rfl ?_)
    (refine r_pure (a_assign (r := .p _)) rfl rfl ?_)
    refine arun_nil ?_
    refine awp_ret (thn_r ?_)
    refine ⟨(by first | exact .inl rfl | exact .inr rfl), _, (fun o => o), (.tmp _ _ _ _ rfl (.tmp _ _ _ _ rfl .nil)), ?_, rfl, ?_, rfl⟩
    · exact rfl
    · exact trivial
  have h2 : keyE s = 0 := by simpa using h
  clear h
  refine awp_skip (awp_seq (awp_seq ?_))
  refine awp_text (by kernel_rfl) ?_
  (refine r_pure (a_move (r := .p _)) rfl rfl ?_)
  (refine r_pure a_lss rfl rfl ?_)
  (refine r_pure (a_move (r := .p _)) rfl rfl ?_)
  (refine r_mb2 _ rfl rfl (by (repeat (first | exact stripOK_nil | refine stripOK_mb id ?_ | refine stripOK_p ?_ | refine stripOK_ref ?_ | refine stripOK_row ?_ | refine stripOK_ptr ?_ | refine stripOK_agg ?_ | refine stripOK_mb (by simp_all) ?_ | refine StripOK.plain _ _ rfl ?_))) (fun hb => (a_move (r := .p _))) (fun _ => trivial) ?_)
  (refine r_mb2 _ rfl rfl (by (repeat (first | exact stripOK_nil | refine stripOK_mb id ?_ | refine stripOK_p ?_ | refine stripOK_ref ?_ | refine stripOK_row ?_ | refine stripOK_ptr ?_ | refine stripOK_agg ?_ | refine stripOK_mb (by simp_all) ?_ | refine StripOK.plain _ _ rfl ?_))) (fun hb => a_gtr) (fun _ => trivial) ?_)
  (refine r_pure (a_or (by first | exact id | (simp; done) | grind)) rfl rfl ?_)
  (refine r_pure (a_move (r := .p _)) rfl rfl ?_)
  (refine r_mb2 _ rfl rfl (by (repeat (first | exact stripOK_nil | refine stripOK_mb id ?_ | refine stripOK_p ?_ | refine stripOK_ref ?_ | refine stripOK_row ?_ | refine stripOK_ptr ?_ | refine stripOK_agg ?_ | refine stripOK_mb (by simp_all) ?_ | refine StripOK.plain _ _ rfl ?_))) (fun hb => (a_move (r := .p _))) (fun _ => trivial) ?_)
  (refine r_mb2 _ rfl rfl (by (repeat (first | exact stripOK_nil | refine stripOK_mb id ?_ | refine stripOK_p ?_ | refine stripOK_ref ?_ | refine stripOK_row ?_ | refine stripOK_ptr ?_ | refine stripOK_agg ?_ | refine stripOK_mb (by simp_all) ?_ | refine StripOK.plain _ _ rfl ?_))) (fun hb => a_lss) (fun _ => trivial) ?_)
  (refine r_pure (a_or (by first | exact id | (simp; done) | grind)) rfl rfl ?_)
  (refine r_pure (a_move (r := .p _)) rfl rfl ?_)
  (refine r_mb2 _ rfl rfl (by (repeat (first | exact stripOK_nil | refine stripOK_mb id ?_ | refine stripOK_p ?_ | refine stripOK_ref ?_ | refine stripOK_row ?_ | refine stripOK_ptr ?_ | refine stripOK_agg ?_ | refine stripOK_mb (by simp_all) ?_ | refine StripOK.plain _ _ rfl ?_))) (fun hb => (a_move (r := .p _))) (fun _ => trivial) ?_)
  (refine r_mb2 _ rfl rfl (by (repeat (first | exact stripOK_nil | refine stripOK_mb id ?_ | refine stripOK_p ?_ | refine stripOK_ref ?_ | refine stripOK_row ?_ | refine stripOK_ptr ?_ | refine stripOK_agg ?_ | refine stripOK_mb (by simp_all) ?_ | refine StripOK.plain _ _ rfl ?_))) (fun hb => a_gtr) (fun _ => trivial) ?_)
  (refine r_pure (a_or (by first | exact id | (simp; done) | grind)) rfl rfl ?_)
  refine arun_nil ?_
  refine thn_n ?_
  refine awp_cond _ rfl (fun h => ?_) (fun h => ?_)
  · have h3 : c < 0 ∨ 1099511627776 < c ∨ n < 0 ∨ 232 < n := by simpa [or_assoc] using h
    obtain ⟨e1, e2⟩ := bRes_bad (show strE s c n = 4 by unfold strE; rw [if_pos h2, if_pos h3]) (by omega) n.toNat (strD s c n)
    rw [e1, e2]
    refine awp_seq ?_
    refine awp_text (by kernel_rfl) ?_
    (refine r_pure (a_assign (r := .p _)) rfl rfl ?_)
    (refine r_pure (a_assign (r := .p _)) rfl rfl ?_)
    refine arun_nil ?_
    refine awp_ret (thn_r ?_)
    refine ⟨(by first | exact .inl rfl | exact .inr rfl), _, (fun o => o), (.tmp _ _ _ _ rfl (.tmp _ _ _ _ rfl .nil)), ?_, rfl, ?_, rfl⟩
    · exact rfl
    · exact trivial
  have h3 : ¬ (c < 0 ∨ 1099511627776 < c ∨ n < 0 ∨ 232 < n) := by simp at h; omega
  clear h
  obtain ⟨e1, e2⟩ := bRes_good (show strE s c n = 0 by unfold strE; rw [if_pos h2, if_neg h3]) n.toNat (strD s c n)
  rw [e1, e2]
  clear e1 e2
  obtain ⟨cn, rfl⟩ := Int.eq_ofNat_of_zero_le (show 0 ≤ c by omega)
  obtain ⟨nn, rfl⟩ := Int.eq_ofNat_of_zero_le (show 0 ≤ n by omega)
  have hnn : nn ≤ 232 := by omega
  have hcn : cn ≤ 1099511627776 := by omega
  unfold strD
  rw [Int.toNat_natCast, Int.toNat_natCast]
  have hnb : nn ≤ 32 * nbl nn ∧ 32 * nbl nn < nn + 32 := by unfold nbl; omega
  have hSl := strm_len s cn (nbl nn)
  have hSa := strm_at s cn (nbl nn)
  generalize strm s cn (nbl nn) = SS at hSl hSa ⊢
  refine awp_skip (awp_seq ?_)
  refine awp_text (by kernel_rfl) ?_
  (refine r_pure (a_assign (r := .p _)) rfl rfl ?_)
  (refine r_pure (a_assign (r := .p _)) rfl rfl ?_)
  refine arun_nil ?_
  refine awp_seq (awp_seq ?_)
  refine awp_re (re_nil 9 9 5 1 rfl rfl) ?_
  refine awp_re (re_nil 10 10 5 1 rfl rfl) ?_
  refine awp_text (by kernel_rfl) ?_
  (refine r_pure (a_assign (r := .p _)) rfl rfl ?_)
  refine arun_nil ?_
  refine awp_block ?_
  refine awp_loopR (fun m st => ∃ i : Nat, m + i = nn ∧ st = St.of [(0, .p (.v (.string s))), (1, .p (.v (.int .i64 cn))), (2, .p (.v (.int .i64 nn))), (9, .row 9), (10, .row 10), (11, .p (.v (.int .i64 i)))] [(9, .row 5 1 i (bs (SS.take i))), (10, .row 5 1 (blS i) (bs (bbS s cn i)))]) nn ?_ ?_
  · refine ⟨_, re_of id _ _ ?_ ?_ rfl, 0, by omega, rfl⟩
    · (repeat (first | exact trivial | (refine ⟨⟨(by first | rfl | (simp; done) | (simp; omega)), rfl⟩, ?_⟩)))
    · rw [List.take_zero]
      exact ⟨⟨rfl, rfl⟩, ⟨rfl, rfl⟩, trivial⟩
  rintro m st ⟨i, hi, rfl⟩
  refine awp_seq (awp_seq ?_)
  refine awp_text (by kernel_rfl) ?_
  (refine r_pure (a_move (r := .p _)) rfl rfl ?_)
  (refine r_pure (a_move (r := .p _)) rfl rfl ?_)
  (refine r_pure a_lss rfl rfl ?_)
  refine arun_nil ?_
  refine thn_n ?_
  refine awp_cond _ rfl (fun h => ?_) (fun h => ?_)
  · have hlt : i < nn := by simp at h; omega
    clear h
    obtain ⟨x, hx⟩ : ∃ x, SS[i]? = some x := ⟨SS[i]'(by omega), List.getElem?_eq_getElem (by omega)⟩
    have hxb : (blkS s cn (i / 32))[i % 32]? = some x := by rw [← hSa i (by omega)]; exact hx
    have g1 := bs_at hxb
    have hnx : SS.take (i + 1) = SS.take i ++ [x] := by
      have hil : i < SS.length := by omega
      rw [List.take_succ_eq_append_getElem hil, (List.getElem?_eq_some_iff.1 hx).2]
    have hb1 : bbS s cn (i + 1) = blkS s cn (i / 32) := by unfold bbS; rw [if_neg (by omega)]; rfl
    have hb2 : blS (i + 1) = 32 := by unfold blS; rw [if_neg (by omega)]
    refine awp_skip (awp_seq (awp_block (awp_seq (awp_seq ?_))))
    refine awp_text (by kernel_rfl) ?_
    (refine r_pure (a_move (r := .p _)) rfl rfl ?_)
    (refine r_pure (a_rem (by omega) (by first | exact IntWalk.rem_in _ _ (by omega) | rfl)) rfl rfl ?_)
    (refine r_pure a_eql rfl rfl ?_)
    refine arun_nil ?_
    refine thn_n ?_
    refine awp_cond _ rfl (fun h => ?_) (fun h => ?_)
    · have hm0 : i % 32 = 0 := by simp at h; omega
      clear h
      obtain ⟨u1, hu1⟩ : ∃ u, (⟨#[102, 108, 111, 119]⟩ : ByteArray) ++ strOfNums (be8 cn) = u := ⟨_, rfl⟩
      obtain ⟨u2, hu2⟩ : ∃ u, u1 ++ strOfNums (be8 (i / 32)) = u := ⟨_, rfl⟩
      have s1 : u1.size = 12 := by rw [← hu1, cat_size, nums_size, be8_len]; rfl
      have s2 : u2.size = 20 := by rw [← hu2, cat_size, s1, nums_size, be8_len]
      have s3 : sb u2 = FLOW ++ be8 cn ++ be8 (i / 32) := by
        rw [← hu2, ← hu1, sb_cat, sb_cat, sb_nums (be8_B _), sb_nums (be8_B _)]; rfl
      have s4 : u2.size ≤ maxLen := by rw [s2]; simp [maxLen]
      have ht := refTag_s s 20 (FLOW ++ be8 cn ++ be8 (i / 32)) (by simp [be8_len, FLOW]) (isB_app (isB_app (by intro x hx; simp [FLOW] at hx; omega) (be8_B _)) (be8_B _))
      obtain ⟨e1, e2⟩ := bRes_good (show macE s 20 = 0 by unfold macE; rw [if_pos h2, if_neg (by omega)]) 32 (macD s (FLOW ++ be8 cn ++ be8 (i / 32)))
      rw [e1, e2] at ht
      clear e1 e2
      change Fn _ _ _ _ [(0, .row 5 1 32 (bs (blkS s cn (i / 32))))] at ht
      have hbl := blkS_len s cn (i / 32)
      generalize blkS s cn (i / 32) = D at ht hxb g1 hb1 hbl
      generalize FLOW ++ be8 cn ++ be8 (i / 32) = Z at ht s3
      skip
      refine awp_draw 6 (by kernel_rfl) ?_
      (refine r_pure (a_move (r := .p _)) rfl rfl ?_)
      (refine r_pure (a_move (r := .p _)) rfl rfl ?_)
      (refine r_callV (fun n => 42 + 1000 * n) (big_s cn (by omega)) rfl rfl Try.func91 rfl rfl (by first | rfl | simp [AV.noSl, AV.noSlL, AObj.noSl, PV.isV, bs_noSl]) (by first | rfl | simp [AV.noSl, AV.noSlL, AObj.noSl, PV.isV, bs_noSl]) rfl rfl rfl (by first | exact trivial | exact ⟨rfl, trivial⟩ | exact ⟨rfl, rfl, trivial⟩) rfl rfl rfl ?_)
      (refine r_run (a_b2s Try.underlying50 Try.underlying5 Try.underlying9 (src_row) rfl rfl) rfl rfl ⟨rfl, trivial⟩ ?_)
      (refine r_pure (a_cat (by rw [nums_size, be8_len]; decide) hu1) rfl rfl ?_)
      (refine r_pure (a_move (r := .p _)) rfl rfl ?_)
      (refine r_pure (a_quo (by omega) (by first | exact IntWalk.i64_quo _ _ (by omega) | rfl)) rfl rfl ?_)
      (refine r_callV (fun n => 47 + 1000 * n) (big_s (i / 32) (by omega)) rfl rfl Try.func91 rfl rfl (by first | rfl | simp [AV.noSl, AV.noSlL, AObj.noSl, PV.isV, bs_noSl]) (by first | rfl | simp [AV.noSl, AV.noSlL, AObj.noSl, PV.isV, bs_noSl]) rfl rfl rfl (by first | exact trivial | exact ⟨rfl, trivial⟩ | exact ⟨rfl, rfl, trivial⟩) rfl rfl rfl ?_)
      (refine r_run (a_b2s Try.underlying50 Try.underlying5 Try.underlying9 (src_row) rfl rfl) rfl rfl ⟨rfl, trivial⟩ ?_)
      (refine r_pure (a_cat (by rw [nums_size, be8_len]; omega) hu2) rfl rfl ?_)
      (refine r_run (a_s2b 50 Try.underlying9 Try.underlying50 Try.underlying5 (by first | omega | (simp only [maxLen]; omega)) s2 s3) rfl rfl ⟨rfl, trivial⟩ ?_)
      (refine r_callV (fun n => 51 + 1000 * n) (ht) rfl rfl Try.func90 rfl rfl (by first | rfl | simp [AV.noSl, AV.noSlL, AObj.noSl, PV.isV, bs_noSl]) (by first | rfl | simp [AV.noSl, AV.noSlL, AObj.noSl, PV.isV, bs_noSl]) rfl rfl rfl (by first | exact trivial | exact ⟨rfl, trivial⟩ | exact ⟨rfl, rfl, trivial⟩) rfl rfl rfl ?_)
      (refine r_pure (a_move (r := .tup _)) rfl rfl ?_)
      (refine r_pure (a_extract rfl) rfl rfl ?_)
      (refine r_pure (a_extract rfl) rfl rfl ?_)
      (refine r_pure (a_assign (r := .row _)) rfl rfl ?_)
      refine arun_nil ⟨by kernel_rfl, ?_⟩
      refine thn_n ?_
      refine awp_text (by kernel_rfl) ?_
      (refine r_pure (a_move (r := .row _)) rfl rfl ?_)
      (refine r_pure (a_move (r := .row _)) rfl rfl ?_)
      (refine r_pure (a_move (r := .p _)) rfl rfl ?_)
      (refine r_pure (a_rem (by omega) (by first | exact IntWalk.rem_in _ _ (by omega) | rfl)) rfl rfl ?_)
      (refine r_run (a_indexAddrR Try.underlying50 sz5 (by omega) (by omega) (show _ = i % 32 by omega)) rfl rfl ⟨rfl, trivial⟩ ?_)
      (refine r_run (a_load1r Try.underlying5 rfl g1) rfl rfl ⟨rfl, trivial⟩ ?_)
      (refine r_run (xs := [.p (.v (.int .u8 x))]) (a_buildSlice (es := [.p (.v (.int .u8 x))]) (cs := [.v (.int .u8 x)]) 60 Try.underlying50 sz5 zc5 (Nat.le_of_ble_eq_true rfl) (Nat.le_of_ble_eq_true rfl) rfl (by kernel_rfl) (by kernel_rfl) (by kernel_rfl) (Nat.le_of_ble_eq_true rfl)) (by first | rfl | kernel_rfl) rfl ⟨rfl, trivial⟩ ?_)
      (refine r_run (a_append 61 Try.underlying50 eo5 (src_row) (by simp only [maxLen]; omega) (by omega) rfl rfl) rfl rfl ⟨rfl, rfl, rfl, trivial⟩ ?_)
      (refine r_pure (a_assign (r := .row _)) rfl rfl ?_)
      refine arun_nil ?_
      refine inb_n (thn_n ?_)
      refine awp_text (by kernel_rfl) ?_
      (refine r_pure (a_move (r := .p _)) rfl rfl ?_)
      (refine r_pure (a_add (by first | exact IntWalk.i64_in _ (by omega) | rfl)) rfl rfl ?_)
      (refine r_pure (a_assign (r := .p _)) rfl rfl ?_)
      refine arun_nil ?_
      refine thn_n ?_
      refine ⟨m - 1, by omega, _, re_of (fun o => bif Nat.beq o 9 then 61 else 51) _ _ ?_ ?_ rfl, i + 1, by omega, rfl⟩
      · (repeat (first | exact trivial | (refine ⟨⟨(by first | rfl | (simp; done) | (simp; omega)), rfl⟩, ?_⟩)))
      · rw [hb1, hb2, hnx, ← bs_push]
        exact ⟨⟨rfl, rfl⟩, ⟨rfl, rfl⟩, trivial⟩
    · have hm0 : i % 32 ≠ 0 := by simp at h; omega
      clear h
      have hb3 : bbS s cn i = blkS s cn (i / 32) := by unfold bbS; rw [if_neg (by omega), show (i - 1) / 32 = i / 32 by omega]
      have hb4 : blS i = 32 := by unfold blS; rw [if_neg (by omega)]
      rw [hb3, hb4]
      have hbl := blkS_len s cn (i / 32)
      generalize blkS s cn (i / 32) = D at hxb g1 hb1 hbl ⊢
      refine awp_skip (thn_n ?_)
      refine awp_text (by kernel_rfl) ?_
      (refine r_pure (a_move (r := .row _)) rfl rfl ?_)
      (refine r_pure (a_move (r := .row _)) rfl rfl ?_)
      (refine r_pure (a_move (r := .p _)) rfl rfl ?_)
      (refine r_pure (a_rem (by omega) (by first | exact IntWalk.rem_in _ _ (by omega) | rfl)) rfl rfl ?_)
      (refine r_run (a_indexAddrR Try.underlying50 sz5 (by omega) (by omega) (show _ = i % 32 by omega)) rfl rfl ⟨rfl, trivial⟩ ?_)
      (refine r_run (a_load1r Try.underlying5 rfl g1) rfl rfl ⟨rfl, trivial⟩ ?_)
      (refine r_run (xs := [.p (.v (.int .u8 x))]) (a_buildSlice (es := [.p (.v (.int .u8 x))]) (cs := [.v (.int .u8 x)]) 60 Try.underlying50 sz5 zc5 (Nat.le_of_ble_eq_true rfl) (Nat.le_of_ble_eq_true rfl) rfl (by kernel_rfl) (by kernel_rfl) (by kernel_rfl) (Nat.le_of_ble_eq_true rfl)) (by first | rfl | kernel_rfl) rfl ⟨rfl, trivial⟩ ?_)
      (refine r_run (a_append 61 Try.underlying50 eo5 (src_row) (by simp only [maxLen]; omega) (by omega) rfl rfl) rfl rfl ⟨rfl, rfl, rfl, trivial⟩ ?_)
      (refine r_pure (a_assign (r := .row _)) rfl rfl ?_)
      refine arun_nil ?_
      refine inb_n (thn_n ?_)
      refine awp_text (by kernel_rfl) ?_
      (refine r_pure (a_move (r := .p _)) rfl rfl ?_)
      (refine r_pure (a_add (by first | exact IntWalk.i64_in _ (by omega) | rfl)) rfl rfl ?_)
      (refine r_pure (a_assign (r := .p _)) rfl rfl ?_)
      refine arun_nil ?_
      refine thn_n ?_
      refine ⟨m - 1, by omega, _, re_of (fun o => bif Nat.beq o 9 then 61 else o) _ _ ?_ ?_ rfl, i + 1, by omega, rfl⟩
      · (repeat (first | exact trivial | (refine ⟨⟨(by first | rfl | (simp; done) | (simp; omega)), rfl⟩, ?_⟩)))
      · rw [hb1, hb2, hnx, ← bs_push]
        exact ⟨⟨rfl, rfl⟩, ⟨rfl, rfl⟩, trivial⟩
  have hge : i = nn := by simp at h; omega
  clear h
  subst hge
  refine awp_exit (awp_seq ?_)
  refine awp_text (by kernel_rfl) ?_
  (refine r_pure (a_move (r := .row _)) rfl rfl ?_)
  (refine r_pure (a_assign (r := .row _)) rfl rfl ?_)
  (refine r_pure (a_assign (r := .p _)) rfl rfl ?_)
  refine arun_nil ?_
  refine awp_ret ?_
  refine ⟨(by first | exact .inl rfl | exact .inr rfl), _, (fun _ => 9), (.tmp _ _ _ _ rfl (.tmp _ _ _ _ rfl .nil)), ?_, rfl, ?_, rfl⟩
  · exact rfl
  · exact ⟨⟨rfl, rfl⟩, trivial⟩

end Go.Proofs.Ytckkmfoccefcfaa
