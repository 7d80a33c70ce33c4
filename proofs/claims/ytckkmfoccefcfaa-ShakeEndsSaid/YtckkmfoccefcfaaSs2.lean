/- seal.Stream, over data. -/
import Derived.Test.YtckkmfoccefcfaaSs1
namespace Go.Proofs.Ytckkmfoccefcfaa
open Go.RowKit Go.Sort
set_option linter.unusedVariables false
set_option linter.unusedSimpArgs false
set_option maxRecDepth 100000

def FLOW : List Int := [102, 108, 111, 119]
def blkS (s : ByteArray) (c j : Nat) : List Int := macD s (FLOW ++ be8 c ++ be8 j)
def strm (s : ByteArray) (c j : Nat) : List Int := (List.range j).flatMap (blkS s c)
theorem macD_len (s : ByteArray) (b : List Int) : (macD s b).length = 32 := shaD_len _
theorem macD_B (s : ByteArray) (b : List Int) : isB (macD s b) := shaD_B _
theorem strm_succ (s : ByteArray) (c j : Nat) : strm s c (j + 1) = strm s c j ++ blkS s c j := by simp [strm, List.range_succ]
theorem strm_len (s : ByteArray) (c : Nat) : ∀ j, (strm s c j).length = 32 * j
  | 0 => rfl
  | j + 1 => by rw [strm_succ, List.length_append, strm_len s c j, blkS, macD_len]; omega
def strE (s : ByteArray) (c n : Int) : Int := if keyE s = 0 then (if c < 0 ∨ 1099511627776 < c ∨ n < 0 ∨ 232 < n then 4 else 0) else keyE s
def nbl (n : Nat) : Nat := (n + 31) / 32
def strD (s : ByteArray) (c n : Int) : List Int := (strm s c.toNat (nbl n.toNat)).take n.toNat

set_option maxHeartbeats 1000000 in
theorem stream_s (s : ByteArray) (c n : Int) : Fn Try.prog 109 [.p (.v (.string s)), .p (.v (.int .i64 c)), .p (.v (.int .i64 n))] (bRes (strE s c n)) (bNew (strE s c n) n.toNat (strD s c n)) := by
  refine fn_intro Try.func109 rfl (Nat.le_of_ble_eq_true rfl) fun w0 A => ?_
  refine awp_seq ?_
  refine awp_text (by kernel_rfl) ?_
  (refine r_pure (a_assign (r := .p _)) rfl rfl ?_)
  (refine r_pure (a_assign (r := .p _)) rfl rfl ?_)
  refine arun_nil ?_
  refine awp_seq (awp_seq ?_)
  refine awp_text (by kernel_rfl) ?_
  (refine r_pure (a_move (r := .p _)) rfl rfl ?_)
  (refine r_callV (fun n => 14 + 1000 * n) (hexCheck_s s) rfl rfl Try.func66 rfl rfl (by first | rfl | simp [AV.noSl, AV.noSlL, AObj.noSl, PV.isV, bs_noSl]) (by first | rfl | simp [AV.noSl, AV.noSlL, AObj.noSl, PV.isV, bs_noSl]) rfl rfl rfl (by first | exact trivial | exact ⟨rfl, trivial⟩ | exact ⟨rfl, rfl, trivial⟩) rfl rfl rfl ?_)
  (refine r_pure (a_assign (r := .p _)) rfl rfl ?_)
  refine arun_nil ?_
  refine awp_seq ?_
  refine awp_text (by kernel_rfl) ?_
  (refine r_pure (a_move (r := .p _)) rfl rfl ?_)
  (refine r_pure a_neq rfl rfl ?_)
  refine arun_nil ?_
  refine thn_n ?_
  refine awp_cond _ rfl (fun h => ?_) (fun h => ?_)
  · have h2 : keyE s ≠ 0 := by simpa using h
    obtain ⟨e1, e2⟩ := bRes_bad (show strE s c n = keyE s by unfold strE; rw [if_neg h2]) h2 n.toNat (strD s c n)
    rw [e1, e2]
    refine awp_seq ?_
    refine awp_text (by kernel_rfl) ?_
    (refine r_pure (a_move (r := .p _)) rfl rfl ?_)
    (refine r_pure (a_assign (r := .p _)) rfl rfl ?_)
    (refine r_pure (a_assign (r := .p _)) rfl rfl ?_)
    refine arun_nil ?_
    refine awp_ret (thn_r ?_)
    refine ⟨(by first | exact .inl rfl | exact .inr rfl), _, (fun o => o), (.tmp _ _ _ _ rfl (.tmp _ _ _ _ rfl .nil)), ?_, rfl, ?_, rfl⟩
    · exact rfl
    · exact trivial
  have h2 : keyE s = 0 := by simpa using h
  clear h
  refine awp_skip (awp_seq (awp_seq ?_))
  refine awp_text (by kernel_rfl) ?_
  (refine r_pure (a_move (r := .p _)) rfl rfl ?_)
  (refine r_pure a_lss rfl rfl ?_)
  (refine r_pure (a_move (r := .p _)) rfl rfl ?_)
  (refine r_mb2 _ rfl rfl (by (repeat (first | exact stripOK_nil | refine stripOK_mb id ?_ | refine stripOK_p ?_ | refine stripOK_ref ?_ | refine stripOK_row ?_ | refine stripOK_ptr ?_ | refine stripOK_agg ?_ | refine stripOK_mb (by simp_all) ?_ | refine StripOK.plain _ _ rfl ?_))) (fun hb => (a_move (r := .p _))) (fun _ => trivial) ?_)
  (refine r_mb2 _ rfl rfl (by (repeat (first | exact stripOK_nil | refine stripOK_mb id ?_ | refine stripOK_p ?_ | refine stripOK_ref ?_ | refine stripOK_row ?_ | refine stripOK_ptr ?_ | refine stripOK_agg ?_ | refine stripOK_mb (by simp_all) ?_ | refine StripOK.plain _ _ rfl ?_))) (fun hb => a_gtr) (fun _ => trivial) ?_)
  (refine r_pure (a_or (by first | exact id | (simp; done) | grind)) rfl rfl ?_)
  (refine r_pure (a_move (r := .p _)) rfl rfl ?_)
  (refine r_mb2 _ rfl rfl (by (repeat (first | exact stripOK_nil | refine stripOK_mb id ?_ | refine stripOK_p ?_ | refine stripOK_ref ?_ | refine stripOK_row ?_ | refine stripOK_ptr ?_ | refine stripOK_agg ?_ | refine stripOK_mb (by simp_all) ?_ | refine StripOK.plain _ _ rfl ?_))) (fun hb => (a_move (r := .p _))) (fun _ => trivial) ?_)
  (refine r_mb2 _ rfl rfl (by (repeat (first | exact stripOK_nil | refine stripOK_mb id ?_ | refine stripOK_p ?_ | refine stripOK_ref ?_ | refine stripOK_row ?_ | refine stripOK_ptr ?_ | refine stripOK_agg ?_ | refine stripOK_mb (by simp_all) ?_ | refine StripOK.plain _ _ rfl ?_))) (fun hb => a_lss) (fun _ => trivial) ?_)
  (refine r_pure (a_or (by first | exact id | (simp; done) | grind)) rfl rfl ?_)
  (refine r_pure (a_move (r := .p _)) rfl rfl ?_)
  (refine r_mb2 _ rfl rfl (by (repeat (first | exact stripOK_nil | refine stripOK_mb id ?_ | refine stripOK_p ?_ | refine stripOK_ref ?_ | refine stripOK_row ?_ | refine stripOK_ptr ?_ | refine stripOK_agg ?_ | refine stripOK_mb (by simp_all) ?_ | refine StripOK.plain _ _ rfl ?_))) (fun hb => (a_move (r := .p _))) (fun _ => trivial) ?_)
  (refine r_mb2 _ rfl rfl (by (repeat (first | exact stripOK_nil | refine stripOK_mb id ?_ | refine stripOK_p ?_ | refine stripOK_ref ?_ | refine stripOK_row ?_ | refine stripOK_ptr ?_ | refine stripOK_agg ?_ | refine stripOK_mb (by simp_all) ?_ | refine StripOK.plain _ _ rfl ?_))) (fun hb => a_gtr) (fun _ => trivial) ?_)
  (refine r_pure (a_or (by first | exact id | (simp; done) | grind)) rfl rfl ?_)
  refine arun_nil ?_
  refine thn_n ?_
  refine awp_cond _ rfl (fun h => ?_) (fun h => ?_)
  · have h3 : c < 0 ∨ 1099511627776 < c ∨ n < 0 ∨ 232 < n := by simpa [or_assoc] using h
    obtain ⟨e1, e2⟩ := bRes_bad (show strE s c n = 4 by unfold strE; rw [if_pos h2, if_pos h3]) (by omega) n.toNat (strD s c n)
    rw [e1, e2]
    refine awp_seq ?_
    refine awp_text (by kernel_rfl) ?_
    (refine r_pure (a_assign (r := .p _)) rfl rfl ?_)
    (refine r_pure (a_assign (r := .p _)) rfl rfl ?_)
    refine arun_nil ?_
    refine awp_ret (thn_r ?_)
    refine ⟨(by first | exact .inl rfl | exact .inr rfl), _, (fun o => o), (.tmp _ _ _ _ rfl (.tmp _ _ _ _ rfl .nil)), ?_, rfl, ?_, rfl⟩
    · exact rfl
    · exact trivial
  have h3 : ¬ (c < 0 ∨ 1099511627776 < c ∨ n < 0 ∨ 232 < n) := by simp at h; omega
  clear h
  obtain ⟨e1, e2⟩ := bRes_good (show strE s c n = 0 by unfold strE; rw [if_pos h2, if_neg h3]) n.toNat (strD s c n)
  rw [e1, e2]
  clear e1 e2
  obtain ⟨cn, rfl⟩ := Int.eq_ofNat_of_zero_le (show 0 ≤ c by omega)
  obtain ⟨nn, rfl⟩ := Int.eq_ofNat_of_zero_le (show 0 ≤ n by omega)
  have hnn : nn ≤ 232 := by omega
  have hcn : cn ≤ 1099511627776 := by omega
  unfold strD
  rw [Int.toNat_natCast, Int.toNat_natCast]
  have hnb : nn ≤ 32 * nbl nn ∧ 32 * nbl nn < nn + 32 := by unfold nbl; omega
  refine awp_skip (awp_seq ?_)
  refine awp_text (by kernel_rfl) ?_
  (refine r_pure (a_move (r := .p _)) rfl rfl ?_)
  (refine r_pure (a_add (by first | exact IntWalk.i64_in _ (by omega) | rfl)) rfl rfl ?_)
  (refine r_run (a_make0 34 Try.underlying50 eo5 (by omega) (by omega) (by simp only [maxLen]; omega)) rfl rfl ⟨rfl, trivial⟩ ?_)
  (refine r_pure (a_assign (r := .row _)) rfl rfl ?_)
  refine arun_nil ?_
  refine awp_seq (awp_seq ?_)
  refine awp_text (by kernel_rfl) ?_
  (refine r_pure (a_assign (r := .p _)) rfl rfl ?_)
  refine arun_nil ?_
  refine awp_block ?_
  refine awp_loopR (fun m st => ∃ j : Nat, m + j = nbl nn ∧ st = St.of [(0, .p (.v (.string s))), (1, .p (.v (.int .i64 cn))), (2, .p (.v (.int .i64 nn))), (9, .row 9), (10, .p (.v (.int .i64 j)))] [(9, .row 5 1 (32 * j) (bs (strm s cn j)))]) (nbl nn) ?_ ?_
  · refine ⟨_, re_of (fun _ => 34) _ _ ?_ ?_ rfl, 0, by omega, rfl⟩
    · (repeat (first | exact trivial | (refine ⟨⟨(by first | rfl | (simp; done) | (simp; omega)), rfl⟩, ?_⟩)))
    · exact ⟨⟨rfl, rfl⟩, trivial⟩
  rintro m st ⟨j, hj, rfl⟩
  refine awp_seq (awp_seq ?_)
  refine awp_text (by kernel_rfl) ?_
  (refine r_pure (a_move (r := .row _)) rfl rfl ?_)
  (refine r_run (a_lenR Try.underlying50) rfl rfl ⟨rfl, trivial⟩ ?_)
  (refine r_pure (a_move (r := .p _)) rfl rfl ?_)
  (refine r_pure a_lss rfl rfl ?_)
  refine arun_nil ?_
  refine thn_n ?_
  refine awp_cond _ rfl (fun h => ?_) (fun h => ?_)
  · have hlt : j < nbl nn := by simp at h; omega
    clear h
    have ht := tag_s s 20 (FLOW ++ be8 cn ++ be8 j) (by simp [be8_len, FLOW]) (isB_app (isB_app (by intro x hx; simp [FLOW] at hx; omega) (be8_B _)) (be8_B _))
    obtain ⟨e1, e2⟩ := bRes_good (show macE s 20 = 0 by unfold macE; rw [if_pos h2, if_neg (by omega)]) 32 (macD s (FLOW ++ be8 cn ++ be8 j))
    rw [e1, e2, ← bs_appd, ← bs_appd] at ht
    clear e1 e2
    have hs := strm_succ s cn j
    unfold blkS at hs
    generalize macD s (FLOW ++ be8 cn ++ be8 j) = D at ht hs
    refine awp_skip (awp_seq (awp_block (awp_seq ?_)))
    refine awp_text (by kernel_rfl) ?_
    (refine r_pure (a_move (r := .p _)) rfl rfl ?_)
    (refine r_run (xs := ((bs FLOW).map AV.p)) (a_buildSlice (es := ((bs FLOW).map AV.p)) (cs := (bs FLOW)) 43 Try.underlying50 sz5 zc5 (Nat.le_of_ble_eq_true rfl) (Nat.le_of_ble_eq_true rfl) rfl (by kernel_rfl) (by kernel_rfl) (by kernel_rfl) (Nat.le_of_ble_eq_true rfl)) (by first | rfl | kernel_rfl) rfl ⟨rfl, trivial⟩ ?_)
    (refine r_run (a_convRow Try.underlying50 Try.underlying5 (by omega)) rfl rfl ⟨rfl, trivial⟩ ?_)
    (refine r_pure (a_move (r := .p _)) rfl rfl ?_)
    (refine r_callV (fun n => 46 + 1000 * n) (number_s cn) rfl rfl Try.func128 rfl rfl (by first | rfl | simp [AV.noSl, AV.noSlL, AObj.noSl, PV.isV, bs_noSl]) (by first | rfl | simp [AV.noSl, AV.noSlL, AObj.noSl, PV.isV, bs_noSl]) rfl rfl rfl (by first | exact trivial | exact ⟨rfl, trivial⟩ | exact ⟨rfl, rfl, trivial⟩) rfl rfl rfl ?_)
    (refine r_run (a_append 47 Try.underlying50 eo5 (src_row) (by simp only [maxLen]; omega) (by omega) rfl rfl) rfl rfl ⟨rfl, rfl, rfl, trivial⟩ ?_)
    (refine r_pure (a_move (r := .p _)) rfl rfl ?_)
    (refine r_callV (fun n => 49 + 1000 * n) (number_s j) rfl rfl Try.func128 rfl rfl (by first | rfl | simp [AV.noSl, AV.noSlL, AObj.noSl, PV.isV, bs_noSl]) (by first | rfl | simp [AV.noSl, AV.noSlL, AObj.noSl, PV.isV, bs_noSl]) rfl rfl rfl (by first | exact trivial | exact ⟨rfl, trivial⟩ | exact ⟨rfl, rfl, trivial⟩) rfl rfl rfl ?_)
    (refine r_run (a_append 50 Try.underlying50 eo5 (src_row) (by simp only [maxLen]; omega) (by omega) rfl rfl) rfl rfl ⟨rfl, rfl, rfl, trivial⟩ ?_)
    (refine r_callV (fun n => 51 + 1000 * n) (ht) rfl rfl Try.func105 rfl rfl (by first | rfl | simp [AV.noSl, AV.noSlL, AObj.noSl, PV.isV, bs_noSl]) (by first | rfl | simp [AV.noSl, AV.noSlL, AObj.noSl, PV.isV, bs_noSl]) rfl rfl rfl (by first | exact trivial | exact ⟨rfl, trivial⟩ | exact ⟨rfl, rfl, trivial⟩) rfl rfl rfl ?_)
    (refine r_pure (a_move (r := .tup _)) rfl rfl ?_)
    (refine r_pure (a_extract rfl) rfl rfl ?_)
    (refine r_pure (a_extract rfl) rfl rfl ?_)
    (refine r_pure (a_assign (r := .row _)) rfl rfl ?_)
    (refine r_pure (a_assign (r := .p _)) rfl rfl ?_)
    refine arun_nil ?_
    refine thn_n ?_
    refine awp_text (by kernel_rfl) ?_
    (refine r_pure (a_move (r := .row _)) rfl rfl ?_)
    (refine r_pure (a_move (r := .row _)) rfl rfl ?_)
    (refine r_run (a_append 56 Try.underlying50 eo5 (src_row) (by simp only [maxLen]; omega) (by omega) (show _ = 32 * (j + 1) by omega) rfl) rfl rfl ⟨rfl, rfl, rfl, trivial⟩ ?_)
    (refine r_pure (a_assign (r := .row _)) rfl rfl ?_)
    refine arun_nil ?_
    refine inb_n (thn_n ?_)
    refine awp_text (by kernel_rfl) ?_
    (refine r_pure (a_move (r := .p _)) rfl rfl ?_)
    (refine r_pure (a_add (by first | exact IntWalk.i64_in _ (by omega) | rfl)) rfl rfl ?_)
    (refine r_pure (a_assign (r := .p _)) rfl rfl ?_)
    refine arun_nil ?_
    refine thn_n ?_
    refine ⟨m - 1, by omega, _, re_of (fun _ => 56) _ _ ?_ ?_ rfl, j + 1, by omega, rfl⟩
    · (repeat (first | exact trivial | (refine ⟨⟨(by first | rfl | (simp; done) | (simp; omega)), rfl⟩, ?_⟩)))
    · rw [hs, ← bs_appd]
      exact ⟨⟨rfl, rfl⟩, trivial⟩
  have hge : j = nbl nn := by simp at h; omega
  clear h
  subst hge
  have hl := strm_len s cn (nbl nn)
  generalize strm s cn (nbl nn) = D at hl ⊢
  have hlb : (bs D).length = 32 * nbl nn := by rw [bs_length]; exact hl
  rw [show bs (D.take nn) = ((bs D).drop 0).take (nn * 1) by simp [bs, List.map_take]]
  refine awp_exit (awp_seq ?_)
  refine awp_text (by kernel_rfl) ?_
  (refine r_pure (a_move (r := .row _)) rfl rfl ?_)
  (refine r_pure (a_move (r := .p _)) rfl rfl ?_)
  (refine r_run (a_sliceR (L := none) (H := (some (_, _))) Try.underlying50 sz5 rfl ⟨by omega, (show _ = nn by omega)⟩ (by omega) (by omega) (show _ = nn by omega) rfl) rfl rfl ⟨rfl, trivial⟩ ?_)
  (refine r_run (a_appendNil 60 Try.underlying50 eo5 (src_psl (by omega) rfl) (by simp only [maxLen]; omega) (by omega)) rfl rfl ⟨rfl, rfl, trivial⟩ ?_)
  (refine r_pure (a_assign (r := .row _)) rfl rfl ?_)
  (refine r_pure (a_assign (r := .p _)) rfl rfl ?_)
  refine arun_nil ?_
  refine awp_ret ?_
  refine ⟨(by first | exact .inl rfl | exact .inr rfl), _, (fun _ => 60), (.tmp _ _ _ _ rfl (.tmp _ _ _ _ rfl .nil)), ?_, rfl, ?_, rfl⟩
  · exact rfl
  · exact ⟨⟨rfl, rfl⟩, trivial⟩
end Go.Proofs.Ytckkmfoccefcfaa
