/- seal.Seal, its reference, and the law SealSeals, over data. -/
import Derived.Test.YtckkmfoccefcfaaSl1
import Derived.Test.YtckkmfoccefcfaaMa3
namespace Go.Proofs.Ytckkmfoccefcfaa
open Go.RowKit Go.Sort
set_option linter.unusedVariables false
set_option linter.unusedSimpArgs false
set_option maxRecDepth 100000

def sealE (s : ByteArray) (c : Int) (n : Nat) : Int := if 220 < n then 1 else strE s c n
def sealO (s : ByteArray) (c : Int) (b : List Int) : List Int := mixD b (strD s c b.length)
def sealT (s : ByteArray) (c : Int) (o : List Int) : List Int := macD s (SEAL ++ be8 c.toNat ++ o)
def sealD (s : ByteArray) (c : Int) (b : List Int) : List Int := sealO s c b ++ (sealT s c (sealO s c b)).take 16
theorem bs_hd (xs : List Int) (k : Nat) : bs (xs.take k) = ((bs xs).drop 0).take (k * 1) := by simp [bs, List.map_take]
theorem strD_len (s : ByteArray) (c n : Int) (h : 0 ≤ n) : (strD s c n).length = n.toNat := by
  unfold strD
  rw [List.length_take, strm_len]; unfold nbl; omega
theorem mixD_comm (a b : List Int) : mixD a b = mixD b a := by
  unfold mixD
  rw [List.zipWith_comm]
  congr 1; funext x y; exact xb_comm _ _
theorem strm_B (s : ByteArray) (c j : Nat) : isB (strm s c j) := by
  intro x hx
  simp only [strm, List.mem_flatMap] at hx
  obtain ⟨k, _, hx⟩ := hx
  exact macD_B _ _ x hx
theorem strD_B (s : ByteArray) (c n : Int) : isB (strD s c n) := fun x hx => strm_B _ _ _ x (List.mem_of_mem_take hx)
theorem strE_good {s : ByteArray} {c n : Int} (h : strE s c n = 0) : keyE s = 0 ∧ 0 ≤ c ∧ c ≤ 1099511627776 ∧ 0 ≤ n ∧ n ≤ 232 := by
  unfold strE at h
  split at h
  · rename_i hk
    split at h
    · omega
    · rename_i h2
      exact ⟨hk, by omega⟩
  · rename_i hk; exact absurd h hk
theorem sealO_len (s : ByteArray) (c : Int) (b : List Int) : (sealO s c b).length = b.length := mixD_len rfl (strD_len s c _ (by omega))
theorem sealT_len (s : ByteArray) (c : Int) (b : List Int) : (sealT s c b).length = 32 := macD_len _ _

set_option maxHeartbeats 1000000 in
theorem seal_s (s : ByteArray) (c : Int) (n : Nat) (b : List Int) (hb : b.length = n) (hB : isB b) : Fn Try.prog 73 [.p (.v (.string s)), .p (.v (.int .i64 c)), .p (.sl n 1 (bs b))] (bRes (sealE s c n)) (bNew (sealE s c n) (n + 16) (sealD s c b)) := by
  refine fn_intro Try.func73 rfl (Nat.le_of_ble_eq_true rfl) fun w0 A => ?_
  refine awp_seq ?_
  refine awp_text (by kernel_rfl) ?_
  (refine r_pure (a_assign (r := .p _)) rfl rfl ?_)
  (refine r_pure (a_assign (r := .p _)) rfl rfl ?_)
  refine arun_nil ?_
  refine awp_seq (awp_seq ?_)
  refine awp_text (by kernel_rfl) ?_
  (refine r_pure (a_move (r := .p _)) rfl rfl ?_)
  (refine r_pure (a_lenS Try.underlying50) rfl rfl ?_)
  (refine r_pure a_gtr rfl rfl ?_)
  refine arun_nil ?_
  refine thn_n ?_
  refine awp_cond _ rfl (fun h => ?_) (fun h => ?_)
  · have h2 : 220 < n := by simp at h; omega
    obtain ⟨e1, e2⟩ := bRes_bad (show sealE s c n = 1 by unfold sealE; rw [if_pos h2]) (by omega) (n + 16) (sealD s c b)
    rw [e1, e2]
    refine awp_seq ?_
    refine awp_text (by kernel_rfl) ?_
    (refine r_pure (a_assign (r := .p _)) rfl rfl ?_)
    (refine r_pure (a_assign (r := .p _)) rfl rfl ?_)
    refine arun_nil ?_
    refine awp_ret (thn_r ?_)
    refine ⟨(by first | exact .inl rfl | exact .inr rfl), _, (fun o => o), (.tmp _ _ _ _ rfl (.tmp _ _ _ _ rfl .nil)), ?_, rfl, ?_, rfl⟩
    · exact rfl
    · exact trivial
  have h2 : n ≤ 220 := by simp at h; omega
  clear h
  have hE : sealE s c n = strE s c n := by unfold sealE; rw [if_neg (by omega)]
  have hS := stream_s s c n
  have hSl := strD_len s c n (by omega)
  by_cases hz : strE s c n ≠ 0
  · obtain ⟨e1, e2⟩ := bRes_bad hE hz (n + 16) (sealD s c b)
    rw [e1, e2]
    obtain ⟨e1, e2⟩ := bRes_bad (e' := strE s c n) rfl hz (n : Int).toNat (strD s c n)
    rw [e1, e2] at hS
    generalize strE s c n = ee at hS hz
    refine awp_skip (awp_seq ?_)
    refine awp_text (by kernel_rfl) ?_
    (refine r_pure (a_move (r := .p _)) rfl rfl ?_)
    (refine r_pure (a_move (r := .p _)) rfl rfl ?_)
    (refine r_pure (a_move (r := .p _)) rfl rfl ?_)
    (refine r_pure (a_lenS Try.underlying50) rfl rfl ?_)
    (refine r_callV (fun n => 21 + 1000 * n) (hS) rfl rfl Try.func109 rfl rfl (by first | rfl | simp [AV.noSl, AV.noSlL, AObj.noSl, PV.isV, bs_noSl]) (by first | rfl | simp [AV.noSl, AV.noSlL, AObj.noSl, PV.isV, bs_noSl]) rfl rfl rfl (by first | exact trivial | exact ⟨rfl, trivial⟩ | exact ⟨rfl, rfl, trivial⟩) rfl rfl rfl ?_)
    (refine r_pure (a_move (r := .tup _)) rfl rfl ?_)
    (refine r_pure (a_extract rfl) rfl rfl ?_)
    (refine r_pure (a_extract rfl) rfl rfl ?_)
    (refine r_pure (a_assign (r := .p _)) rfl rfl ?_)
    (refine r_pure (a_assign (r := .p _)) rfl rfl ?_)
    refine arun_nil ?_
    refine awp_seq (awp_seq ?_)
    refine awp_text (by kernel_rfl) ?_
    (refine r_pure (a_move (r := .p _)) rfl rfl ?_)
    (refine r_pure a_neq rfl rfl ?_)
    refine arun_nil ?_
    refine thn_n ?_
    refine awp_cond _ rfl (fun h => ?_) (fun h => ?_)
    · refine awp_seq ?_
      refine awp_text (by kernel_rfl) ?_
      (refine r_pure (a_move (r := .p _)) rfl rfl ?_)
      (refine r_pure (a_assign (r := .p _)) rfl rfl ?_)
      (refine r_pure (a_assign (r := .p _)) rfl rfl ?_)
      refine arun_nil ?_
      refine awp_ret (thn_r ?_)
      refine ⟨(by first | exact .inl rfl | exact .inr rfl), _, (fun o => o), (.tmp _ _ _ _ rfl (.tmp _ _ _ _ rfl .nil)), ?_, rfl, ?_, rfl⟩
      · exact rfl
      · exact trivial
    exact absurd (by simpa using h) hz
  have hz : strE s c n = 0 := by simpa using hz
  obtain ⟨e1, e2⟩ := bRes_good (show sealE s c n = 0 by rw [hE, hz]) (n + 16) (sealD s c b)
  rw [e1, e2]
  obtain ⟨e1, e2⟩ := bRes_good hz (n : Int).toNat (strD s c n)
  rw [e1, e2, Int.toNat_natCast] at hS
  clear e1 e2
  obtain ⟨hk, hc0, hc1, hn0, hn1⟩ := strE_good hz
  obtain ⟨cn, rfl⟩ := Int.eq_ofNat_of_zero_le hc0
  rw [Int.toNat_natCast] at hSl
  have hM := mixed_s n b (strD s cn n) hb hSl (by omega)
  have hG := signed_s cn n (mixD b (strD s cn n)) (mixD_len hb hSl) (by omega)
  have hT := tag_s s (12 + n) (SEAL ++ be8 cn ++ mixD b (strD s cn n)) (by rw [List.length_append, mixD_len hb hSl, List.length_append, be8_len]; rfl) (isB_app (isB_app SEAL_B (be8_B _)) (mixD_B _ _))
  obtain ⟨e1, e2⟩ := bRes_good (show macE s (12 + n) = 0 by unfold macE; rw [if_pos hk, if_neg (by omega)]) 32 (macD s (SEAL ++ be8 cn ++ mixD b (strD s cn n)))
  rw [e1, e2] at hT
  clear e1 e2
  have hMl := mixD_len hb hSl
  have hTl := macD_len s (SEAL ++ be8 cn ++ mixD b (strD s cn n))
  unfold sealD sealT sealO
  rw [hb, Int.toNat_natCast]
  generalize strD s cn n = SD at *
  generalize mixD b SD = MD at *
  generalize SEAL ++ be8 cn ++ MD = GD at *
  generalize macD s GD = TD at *
  have hMl2 : (bs MD).length = n := by rw [bs_length]; exact hMl
  have hTl2 : (bs TD).length = 32 := by rw [bs_length]; exact hTl
  refine awp_skip (awp_seq ?_)
  refine awp_text (by kernel_rfl) ?_
  (refine r_pure (a_move (r := .p _)) rfl rfl ?_)
  (refine r_pure (a_move (r := .p _)) rfl rfl ?_)
  (refine r_pure (a_move (r := .p _)) rfl rfl ?_)
  (refine r_pure (a_lenS Try.underlying50) rfl rfl ?_)
  (refine r_callV (fun n => 21 + 1000 * n) (hS) rfl rfl Try.func109 rfl rfl (by first | rfl | simp [AV.noSl, AV.noSlL, AObj.noSl, PV.isV, bs_noSl]) (by first | rfl | simp [AV.noSl, AV.noSlL, AObj.noSl, PV.isV, bs_noSl]) rfl rfl rfl (by first | exact trivial | exact ⟨rfl, trivial⟩ | exact ⟨rfl, rfl, trivial⟩) rfl rfl rfl ?_)
  (refine r_pure (a_move (r := .tup _)) rfl rfl ?_)
  (refine r_pure (a_extract rfl) rfl rfl ?_)
  (refine r_pure (a_extract rfl) rfl rfl ?_)
  (refine r_pure (a_assign (r := .row _)) rfl rfl ?_)
  (refine r_pure (a_assign (r := .p _)) rfl rfl ?_)
  refine arun_nil ?_
  refine awp_seq (awp_seq ?_)
  refine awp_text (by kernel_rfl) ?_
  (refine r_pure (a_move (r := .p _)) rfl rfl ?_)
  (refine r_pure a_neq rfl rfl ?_)
  refine arun_nil ?_
  refine thn_n ?_
  refine awp_cond _ rfl (fun h => ?_) (fun h => ?_)
  · simp at h
  clear h
  refine awp_skip (awp_seq ?_)
  refine awp_text (by kernel_rfl) ?_
  (refine r_pure (a_move (r := .p _)) rfl rfl ?_)
  (refine r_pure (a_move (r := .row _)) rfl rfl ?_)
  (refine r_callV (fun n => 29 + 1000 * n) (hM) rfl rfl Try.func110 rfl rfl (by first | rfl | simp [AV.noSl, AV.noSlL, AObj.noSl, PV.isV, bs_noSl]) (by first | rfl | simp [AV.noSl, AV.noSlL, AObj.noSl, PV.isV, bs_noSl]) rfl rfl rfl (by first | exact trivial | exact ⟨rfl, trivial⟩ | exact ⟨rfl, rfl, trivial⟩) rfl rfl rfl ?_)
  (refine r_pure (a_assign (r := .row _)) rfl rfl ?_)
  refine arun_nil ?_
  refine awp_seq ?_
  refine awp_text (by kernel_rfl) ?_
  (refine r_pure (a_move (r := .p _)) rfl rfl ?_)
  (refine r_pure (a_move (r := .p _)) rfl rfl ?_)
  (refine r_pure (a_move (r := .row _)) rfl rfl ?_)
  (refine r_callV (fun n => 34 + 1000 * n) (hG) rfl rfl Try.func111 rfl rfl (by first | rfl | simp [AV.noSl, AV.noSlL, AObj.noSl, PV.isV, bs_noSl]) (by first | rfl | simp [AV.noSl, AV.noSlL, AObj.noSl, PV.isV, bs_noSl]) rfl rfl rfl (by first | exact trivial | exact ⟨rfl, trivial⟩ | exact ⟨rfl, rfl, trivial⟩) rfl rfl rfl ?_)
  (refine r_callV (fun n => 35 + 1000 * n) (hT) rfl rfl Try.func105 rfl rfl (by first | rfl | simp [AV.noSl, AV.noSlL, AObj.noSl, PV.isV, bs_noSl]) (by first | rfl | simp [AV.noSl, AV.noSlL, AObj.noSl, PV.isV, bs_noSl]) rfl rfl rfl (by first | exact trivial | exact ⟨rfl, trivial⟩ | exact ⟨rfl, rfl, trivial⟩) rfl rfl rfl ?_)
  (refine r_pure (a_move (r := .tup _)) rfl rfl ?_)
  (refine r_pure (a_extract rfl) rfl rfl ?_)
  (refine r_pure (a_extract rfl) rfl rfl ?_)
  (refine r_pure (a_assign (r := .row _)) rfl rfl ?_)
  (refine r_pure (a_assign (r := .p _)) rfl rfl ?_)
  refine arun_nil ?_
  refine awp_seq ?_
  refine awp_draw 4 (by kernel_rfl) ?_
  (refine r_pure (a_move (r := .row _)) rfl rfl ?_)
  (refine r_run (a_appendNil 39 Try.underlying50 eo5 (src_row) (by simp only [maxLen]; omega) (by omega)) rfl rfl ⟨rfl, rfl, trivial⟩ ?_)
  (refine r_pure (a_move (r := .row _)) rfl rfl ?_)
  (refine r_run (a_sliceR (L := none) (H := (some (_, _))) Try.underlying50 sz5 rfl ⟨by omega, rfl⟩ (by omega) (by omega) rfl rfl) rfl rfl ⟨rfl, trivial⟩ ?_)
  (refine r_run (a_append 42 Try.underlying50 eo5 (src_psl (by omega) rfl) (by simp only [maxLen]; omega) (by omega) (show _ = n + 16 by omega) rfl) rfl rfl ⟨rfl, rfl, rfl, trivial⟩ ?_)
  (refine r_pure (a_assign (r := .row _)) rfl rfl ?_)
  (refine r_pure (a_assign (r := .p _)) rfl rfl ?_)
  refine arun_nil ⟨by kernel_rfl, ?_⟩
  refine awp_ret ?_
  rw [← bs_appd, bs_hd]
  refine ⟨(by first | exact .inl rfl | exact .inr rfl), _, (fun _ => 42), (.tmp _ _ _ _ rfl (.tmp _ _ _ _ rfl .nil)), ?_, rfl, ?_, rfl⟩
  · exact rfl
  · exact ⟨⟨rfl, rfl⟩, trivial⟩

set_option maxHeartbeats 1000000 in
theorem refSeal_s (s : ByteArray) (c : Int) (n : Nat) (b : List Int) (hb : b.length = n) (hB : isB b) : Fn Try.prog 75 [.p (.v (.string s)), .p (.v (.int .i64 c)), .p (.sl n 1 (bs b))] (bRes (sealE s c n)) (bNew (sealE s c n) (n + 16) (sealD s c b)) := by
  refine fn_intro Try.func75 rfl (Nat.le_of_ble_eq_true rfl) fun w0 A => ?_
  refine awp_seq ?_
  refine awp_text (by kernel_rfl) ?_
  (refine r_pure (a_assign (r := .p _)) rfl rfl ?_)
  (refine r_pure (a_assign (r := .p _)) rfl rfl ?_)
  refine arun_nil ?_
  refine awp_seq (awp_seq ?_)
  refine awp_text (by kernel_rfl) ?_
  (refine r_pure (a_move (r := .p _)) rfl rfl ?_)
  (refine r_pure (a_lenS Try.underlying50) rfl rfl ?_)
  (refine r_pure a_gtr rfl rfl ?_)
  refine arun_nil ?_
  refine thn_n ?_
  refine awp_cond _ rfl (fun h => ?_) (fun h => ?_)
  · have h2 : 220 < n := by simp at h; omega
    obtain ⟨e1, e2⟩ := bRes_bad (show sealE s c n = 1 by unfold sealE; rw [if_pos h2]) (by omega) (n + 16) (sealD s c b)
    rw [e1, e2]
    refine awp_seq ?_
    refine awp_text (by kernel_rfl) ?_
    (refine r_pure (a_assign (r := .p _)) rfl rfl ?_)
    (refine r_pure (a_assign (r := .p _)) rfl rfl ?_)
    refine arun_nil ?_
    refine awp_ret (thn_r ?_)
    refine ⟨(by first | exact .inl rfl | exact .inr rfl), _, (fun o => o), (.tmp _ _ _ _ rfl (.tmp _ _ _ _ rfl .nil)), ?_, rfl, ?_, rfl⟩
    · exact rfl
    · exact trivial
  have h2 : n ≤ 220 := by simp at h; omega
  clear h
  have hE : sealE s c n = strE s c n := by unfold sealE; rw [if_neg (by omega)]
  have hS := refStream_s s c n
  have hSl := strD_len s c n (by omega)
  have hSB := strD_B s c n
  by_cases hz : strE s c n ≠ 0
  · obtain ⟨e1, e2⟩ := bRes_bad hE hz (n + 16) (sealD s c b)
    rw [e1, e2]
    obtain ⟨e1, e2⟩ := bRes_bad (e' := strE s c n) rfl hz (n : Int).toNat (strD s c n)
    rw [e1, e2] at hS
    generalize strE s c n = ee at hS hz
    refine awp_skip (awp_seq ?_)
    refine awp_text (by kernel_rfl) ?_
    (refine r_pure (a_move (r := .p _)) rfl rfl ?_)
    (refine r_pure (a_move (r := .p _)) rfl rfl ?_)
    (refine r_pure (a_move (r := .p _)) rfl rfl ?_)
    (refine r_pure (a_lenS Try.underlying50) rfl rfl ?_)
    (refine r_callV (fun n => 22 + 1000 * n) (hS) rfl rfl Try.func112 rfl rfl (by first | rfl | simp [AV.noSl, AV.noSlL, AObj.noSl, PV.isV, bs_noSl]) (by first | rfl | simp [AV.noSl, AV.noSlL, AObj.noSl, PV.isV, bs_noSl]) rfl rfl rfl (by first | exact trivial | exact ⟨rfl, trivial⟩ | exact ⟨rfl, rfl, trivial⟩) rfl rfl rfl ?_)
    (refine r_pure (a_move (r := .tup _)) rfl rfl ?_)
    (refine r_pure (a_extract rfl) rfl rfl ?_)
    (refine r_pure (a_extract rfl) rfl rfl ?_)
    (refine r_pure (a_assign (r := .p _)) rfl rfl ?_)
    (refine r_pure (a_assign (r := .p _)) rfl rfl ?_)
    refine arun_nil ?_
    refine awp_seq (awp_seq ?_)
    refine awp_text (by kernel_rfl) ?_
    (refine r_pure (a_move (r := .p _)) rfl rfl ?_)
    (refine r_pure a_neq rfl rfl ?_)
    refine arun_nil ?_
    refine thn_n ?_
    refine awp_cond _ rfl (fun h => ?_) (fun h => ?_)
    · refine awp_seq ?_
      refine awp_text (by kernel_rfl) ?_
      (refine r_pure (a_move (r := .p _)) rfl rfl ?_)
      (refine r_pure (a_assign (r := .p _)) rfl rfl ?_)
      (refine r_pure (a_assign (r := .p _)) rfl rfl ?_)
      refine arun_nil ?_
      refine awp_ret (thn_r ?_)
      refine ⟨(by first | exact .inl rfl | exact .inr rfl), _, (fun o => o), (.tmp _ _ _ _ rfl (.tmp _ _ _ _ rfl .nil)), ?_, rfl, ?_, rfl⟩
      · exact rfl
      · exact trivial
    exact absurd (by simpa using h) hz
  have hz : strE s c n = 0 := by simpa using hz
  obtain ⟨e1, e2⟩ := bRes_good (show sealE s c n = 0 by rw [hE, hz]) (n + 16) (sealD s c b)
  rw [e1, e2]
  obtain ⟨e1, e2⟩ := bRes_good hz (n : Int).toNat (strD s c n)
  rw [e1, e2, Int.toNat_natCast] at hS
  clear e1 e2
  obtain ⟨hk, hc0, hc1, hn0, hn1⟩ := strE_good hz
  obtain ⟨cn, rfl⟩ := Int.eq_ofNat_of_zero_le hc0
  rw [Int.toNat_natCast] at hSl
  have hT := refTag_s s (12 + n) (SEAL ++ be8 cn ++ mixD b (strD s cn n)) (by rw [List.length_append, mixD_len hb hSl, List.length_append, be8_len]; rfl) (isB_app (isB_app SEAL_B (be8_B _)) (mixD_B _ _))
  obtain ⟨e1, e2⟩ := bRes_good (show macE s (12 + n) = 0 by unfold macE; rw [if_pos hk, if_neg (by omega)]) 32 (macD s (SEAL ++ be8 cn ++ mixD b (strD s cn n)))
  rw [e1, e2] at hT
  clear e1 e2
  have hMl := mixD_len hb hSl
  have hMB := mixD_B b (strD s cn n)
  have hTl := macD_len s (SEAL ++ be8 cn ++ mixD b (strD s cn n))
  unfold sealD sealT sealO
  rw [hb, Int.toNat_natCast]
  generalize strD s cn n = SD at *
  have hfull := mixK_full hSl hb hSl
  rw [mixD_comm] at hfull
  generalize mixD b SD = MD at *
  obtain ⟨u1, hu1⟩ : ∃ u, (⟨#[115, 101, 97, 108]⟩ : ByteArray) ++ strOfNums (be8 cn) = u := ⟨_, rfl⟩
  obtain ⟨u2, hu2⟩ : ∃ u, u1 ++ strOfNums MD = u := ⟨_, rfl⟩
  have s1 : u1.size = 12 := by rw [← hu1, cat_size, nums_size, be8_len]; rfl
  have s2 : u2.size = 12 + n := by rw [← hu2, cat_size, s1, nums_size, hMl]
  have s3 : sb u2 = SEAL ++ be8 cn ++ MD := by
    rw [← hu2, ← hu1, sb_cat, sb_cat, sb_nums (be8_B _), sb_nums hMB]; rfl
  have s4 : u2.size ≤ maxLen := by rw [s2]; simp only [maxLen]; omega
  generalize SEAL ++ be8 cn ++ MD = GD at *
  generalize macD s GD = TD at *
  have hMl2 : (bs MD).length = n := by rw [bs_length]; exact hMl
  have hTl2 : (bs TD).length = 32 := by rw [bs_length]; exact hTl
  refine awp_skip (awp_seq ?_)
  refine awp_text (by kernel_rfl) ?_
  (refine r_pure (a_move (r := .p _)) rfl rfl ?_)
  (refine r_pure (a_move (r := .p _)) rfl rfl ?_)
  (refine r_pure (a_move (r := .p _)) rfl rfl ?_)
  (refine r_pure (a_lenS Try.underlying50) rfl rfl ?_)
  (refine r_callV (fun n => 22 + 1000 * n) (hS) rfl rfl Try.func112 rfl rfl (by first | rfl | simp [AV.noSl, AV.noSlL, AObj.noSl, PV.isV, bs_noSl]) (by first | rfl | simp [AV.noSl, AV.noSlL, AObj.noSl, PV.isV, bs_noSl]) rfl rfl rfl (by first | exact trivial | exact ⟨rfl, trivial⟩ | exact ⟨rfl, rfl, trivial⟩) rfl rfl rfl ?_)
  (refine r_pure (a_move (r := .tup _)) rfl rfl ?_)
  (refine r_pure (a_extract rfl) rfl rfl ?_)
  (refine r_pure (a_extract rfl) rfl rfl ?_)
  (refine r_pure (a_assign (r := .row _)) rfl rfl ?_)
  (refine r_pure (a_assign (r := .p _)) rfl rfl ?_)
  refine arun_nil ?_
  refine awp_seq (awp_seq ?_)
  refine awp_text (by kernel_rfl) ?_
  (refine r_pure (a_move (r := .p _)) rfl rfl ?_)
  (refine r_pure a_neq rfl rfl ?_)
  refine arun_nil ?_
  refine thn_n ?_
  refine awp_cond _ rfl (fun h => ?_) (fun h => ?_)
  · simp at h
  clear h
  refine awp_skip (awp_seq (awp_seq ?_))
  refine awp_text (by kernel_rfl) ?_
  (refine r_pure (a_move (r := .p _)) rfl rfl ?_)
  (refine r_pure (a_lenS Try.underlying50) rfl rfl ?_)
  (refine r_pure (a_move (r := .p _)) rfl rfl ?_)
  refine arun_nil ?_
  refine awp_block ?_
  have hz0 : mixK SD b SD 0 = SD := by simp [mixK]
  refine awp_loopR (fun m st => ∃ k : Nat, m + k = n ∧ st = St.of [(0, .p (.v (.string s))), (1, .p (.v (.int .i64 cn))), (8, .row 8), (28, .p (.sl n 1 (bs b))), (29, .p (.v (.int .i64 n))), (30, .p (.v (.int .i64 k)))] [(8, .row 5 1 n (bs (mixK SD b SD k)))]) n ?_ ?_
  · refine ⟨_, re_of (fun _ => 22) _ _ ?_ ?_ rfl, 0, by omega, rfl⟩
    · (repeat (first | exact trivial | (refine ⟨⟨(by first | rfl | (simp; done) | (simp; omega)), rfl⟩, ?_⟩)))
    · rw [hz0]
      exact ⟨⟨rfl, rfl⟩, trivial⟩
  rintro m st ⟨k, hk2, rfl⟩
  refine awp_seq ?_
  refine awp_text (by kernel_rfl) ?_
  (refine r_pure a_lss rfl rfl ?_)
  refine arun_nil ?_
  refine awp_seq ?_
  refine awp_cond _ rfl (fun h => ?_) (fun h => ?_)
  · have hlt : k < n := by simp at h; omega
    clear h
    obtain ⟨x, hx⟩ : ∃ x, SD[k]? = some x := ⟨SD[k]'(by omega), List.getElem?_eq_getElem (by omega)⟩
    obtain ⟨y, hy⟩ : ∃ y, b[k]? = some y := ⟨b[k]'(by omega), List.getElem?_eq_getElem (by omega)⟩
    obtain ⟨g1, g2⟩ := mixK_step hSl hb hSl hlt hx hy
    have g3 := bs_at hy
    have g4 := bs_at (g1.trans hx)
    have g5 : (bs (mixK SD b SD k)).length = n := by rw [bs_length]; exact mixK_len hSl hb hSl (by omega)
    have g6 : setR (bs (mixK SD b SD k)) k [.v (.int .u8 (xb x y))] = bs (mixK SD b SD (k + 1)) := by rw [bs_set (by rw [bs_length] at g5; omega), g2]
    refine awp_skip (awp_seq (awp_block (awp_seq ?_)))
    refine awp_text (by kernel_rfl) ?_
    (refine r_pure (a_move (r := .p _)) rfl rfl ?_)
    (refine r_pure (a_indexAddrS Try.underlying50 sz5 (by omega) (by omega) (by rw [Int.toNat_natCast, Nat.mul_one])) rfl rfl ?_)
    (refine r_pure (a_load1p Try.underlying5 rfl (by rw [List.getElem?_drop]; exact g3)) rfl rfl ?_)
    (refine r_pure (a_assign (r := .p _)) rfl rfl ?_)
    (refine r_pure (a_assign (r := .p _)) rfl rfl ?_)
    refine arun_nil ?_
    refine thn_n ?_
    refine awp_text (by kernel_rfl) ?_
    (refine r_pure (a_move (r := .row _)) rfl rfl ?_)
    (refine r_pure (a_move (r := .p _)) rfl rfl ?_)
    (refine r_run (a_indexAddrR Try.underlying50 sz5 (by omega) (by omega) (show _ = k by omega)) rfl rfl ⟨rfl, trivial⟩ ?_)
    (refine r_run (a_load1r Try.underlying5 rfl g4) rfl rfl ⟨rfl, trivial⟩ ?_)
    (refine r_pure (a_move (r := .p _)) rfl rfl ?_)
    (refine r_pure (a_bits (by simp) (show _ = xb x y from rfl)) rfl rfl ?_)
    (refine r_run (a_indexAddrR Try.underlying50 sz5 (by omega) (by omega) (show _ = k by omega)) rfl rfl ⟨rfl, trivial⟩ ?_)
    (refine r_run (a_storeR (Y := .p _) sz5 rfl rfl (by first | rfl | omega) (by first | omega | (simp; done) | (simp; omega)) g6) rfl rfl ⟨rfl, trivial⟩ ?_)
    refine arun_nil ?_
    refine inb_n (thn_n ?_)
    refine awp_text (by kernel_rfl) ?_
    (refine r_pure (a_add (by first | exact IntWalk.i64_in _ (by omega) | rfl)) rfl rfl ?_)
    (refine r_pure (a_move (r := .p _)) rfl rfl ?_)
    refine arun_nil ?_
    refine thn_n ?_
    refine ⟨m - 1, by omega, _, re_of id _ _ ?_ ?_ rfl, k + 1, by omega, rfl⟩
    · (repeat (first | exact trivial | (refine ⟨⟨(by first | rfl | (simp; done) | (simp; omega)), rfl⟩, ?_⟩)))
    · exact ⟨⟨rfl, rfl⟩, trivial⟩
  have hge : k = n := by simp at h; omega
  clear h
  subst hge
  rw [hfull]
  refine awp_exit (awp_seq ?_)
  refine awp_draw 6 (by kernel_rfl) ?_
  (refine r_pure (a_move (r := .p _)) rfl rfl ?_)
  (refine r_pure (a_move (r := .p _)) rfl rfl ?_)
  (refine r_callV (fun n => 46 + 1000 * n) (big_s cn (by omega)) rfl rfl Try.func91 rfl rfl (by first | rfl | simp [AV.noSl, AV.noSlL, AObj.noSl, PV.isV, bs_noSl]) (by first | rfl | simp [AV.noSl, AV.noSlL, AObj.noSl, PV.isV, bs_noSl]) rfl rfl rfl (by first | exact trivial | exact ⟨rfl, trivial⟩ | exact ⟨rfl, rfl, trivial⟩) rfl rfl rfl ?_)
  (refine r_run (a_b2s Try.underlying50 Try.underlying5 Try.underlying9 (src_row) rfl rfl) rfl rfl ⟨rfl, trivial⟩ ?_)
  (refine r_pure (a_cat (by rw [nums_size, be8_len]; decide) hu1) rfl rfl ?_)
  (refine r_pure (a_move (r := .row _)) rfl rfl ?_)
  (refine r_run (a_b2s Try.underlying50 Try.underlying5 Try.underlying9 (src_row) rfl rfl) rfl rfl ⟨rfl, trivial⟩ ?_)
  (refine r_pure (a_cat (by rw [nums_size, hMl]; omega) hu2) rfl rfl ?_)
  (refine r_run (a_s2b 52 Try.underlying9 Try.underlying50 Try.underlying5 (by first | omega | (simp only [maxLen]; omega)) s2 s3) rfl rfl ⟨rfl, trivial⟩ ?_)
  (refine r_callV (fun n => 53 + 1000 * n) (hT) rfl rfl Try.func90 rfl rfl (by first | rfl | simp [AV.noSl, AV.noSlL, AObj.noSl, PV.isV, bs_noSl]) (by first | rfl | simp [AV.noSl, AV.noSlL, AObj.noSl, PV.isV, bs_noSl]) rfl rfl rfl (by first | exact trivial | exact ⟨rfl, trivial⟩ | exact ⟨rfl, rfl, trivial⟩) rfl rfl rfl ?_)
  (refine r_pure (a_move (r := .tup _)) rfl rfl ?_)
  (refine r_pure (a_extract rfl) rfl rfl ?_)
  (refine r_pure (a_extract rfl) rfl rfl ?_)
  (refine r_pure (a_assign (r := .row _)) rfl rfl ?_)
  (refine r_pure (a_assign (r := .p _)) rfl rfl ?_)
  refine arun_nil ⟨by kernel_rfl, ?_⟩
  refine awp_seq ?_
  refine awp_text (by kernel_rfl) ?_
  (refine r_pure (a_move (r := .row _)) rfl rfl ?_)
  (refine r_pure (a_move (r := .row _)) rfl rfl ?_)
  (refine r_run (a_sliceR (L := none) (H := (some (_, _))) Try.underlying50 sz5 rfl ⟨by omega, rfl⟩ (by omega) (by omega) rfl rfl) rfl rfl ⟨rfl, trivial⟩ ?_)
  (refine r_run (a_append 59 Try.underlying50 eo5 (src_psl (by omega) rfl) (by simp only [maxLen]; omega) (by omega) (show _ = k + 16 by omega) rfl) rfl rfl ⟨rfl, rfl, rfl, trivial⟩ ?_)
  (refine r_pure (a_assign (r := .row _)) rfl rfl ?_)
  (refine r_pure (a_assign (r := .p _)) rfl rfl ?_)
  refine arun_nil ?_
  refine awp_ret ?_
  rw [← bs_appd, bs_hd]
  refine ⟨(by first | exact .inl rfl | exact .inr rfl), _, (fun _ => 59), (.tmp _ _ _ _ rfl (.tmp _ _ _ _ rfl .nil)), ?_, rfl, ?_, rfl⟩
  · exact rfl
  · exact ⟨⟨rfl, rfl⟩, trivial⟩

end Go.Proofs.Ytckkmfoccefcfaa
