/- packet.Encode and packet.Decode over data. -/
import Derived.Test.YtfnipohlkifkhaaPk1
namespace Go.Proofs.Ytfnipohlkifkhaa
open Go.RowKit Go.Sort
set_option linter.unusedVariables false
set_option linter.unusedSimpArgs false
set_option maxRecDepth 100000

theorem setR_two {H T : List Int} {c1 c2 : Int} (hH : H.length = 10) : ((H ++ [0, 0] ++ T).set 10 c1).set 11 c2 = H ++ [c1, c2] ++ T := by
  rw [List.append_assoc, List.set_append_right _ _ (by omega), hH, List.set_append_right _ _ (by omega), hH, List.append_assoc]
  rfl

set_option maxHeartbeats 2000000 in
theorem enc_s (a b n : Nat) (xs : List Int) (ha : a < 4294967296) (hb : b < 4294967296) (hx : xs.length = n) (hB : isB xs) (hn : n ≤ 200) : Fn Try.prog 80 [.agg (pkt a b n xs)] (.tup [.row 0, .p (.v (.int .i64 0))]) [(0, .row 5 1 (20 + n) (bs (packB a b n xs)))] := by
  have hC := pcheck_s a b n xs (by omega)
  rw [if_neg (by omega)] at hC
  have hF1 := four_s a ha
  have hF2 := four_s b hb
  have hS := psum_s 20 (head20 a b n) (head20_len a b n) (head20_B a b n) (by omega)
  have hlt := sumOf_lt (head20 a b n)
  have hP : packB a b n xs = hdA n ++ beN 2 (65535 - sumOf (head20 a b n)) ++ hdB a b ++ xs := rfl
  generalize hs : sumOf (head20 a b n) = s at *
  rw [beN2 (65535 - s) (by omega)] at hP
  have hH : hdA n ++ [0, 0] = [69, 0, (((20 + n) / 256 : Nat) : Int), (((20 + n) % 256 : Nat) : Int), 0, 0, 0, 0, 64, 253, 0, 0] := by
    simp [hdA, beN2 (20 + n) (by omega)]
  have hH2 : head20 a b n = (hdA n ++ [0, 0]) ++ beN 4 a ++ beN 4 b := by simp [head20, hdB]
  have hset := setR_two (T := hdB a b) (c1 := (((65535 - s) / 256 : Nat) : Int)) (c2 := (((65535 - s) % 256 : Nat) : Int)) (hdA_len n)
  have e1 : ((20 : Int) + n).fdiv (2 ^ min (8 : Int).toNat IntKind.i64.bits) = (((20 + n) / 256 : Nat) : Int) := by
    rw [show (2 : Int) ^ min (8 : Int).toNat IntKind.i64.bits = 256 from rfl, Int.fdiv_eq_ediv_of_nonneg _ (by omega)]; omega
  have w1 : IntKind.u8.wrap (((20 + n) / 256 : Nat) : Int) = (((20 + n) / 256 : Nat) : Int) := IntWalk.u8_in _ (by omega)
  have w2 : IntKind.u8.wrap ((20 : Int) + n) = (((20 + n) % 256 : Nat) : Int) := by rw [IntKind.wrap_u8]; omega
  have e2 : ((65535 - s : Nat) : Int).fdiv (2 ^ min (8 : Int).toNat IntKind.u16.bits) = (((65535 - s) / 256 : Nat) : Int) := by
    rw [show (2 : Int) ^ min (8 : Int).toNat IntKind.u16.bits = 256 from rfl, Int.fdiv_eq_ediv_of_nonneg _ (by omega)]; omega
  have w3 : IntKind.u8.wrap (((65535 - s) / 256 : Nat) : Int) = (((65535 - s) / 256 : Nat) : Int) := IntWalk.u8_in _ (by omega)
  have w4 : IntKind.u8.wrap ((65535 - s : Nat) : Int) = (((65535 - s) % 256 : Nat) : Int) := by rw [IntKind.wrap_u8]; omega
  have hHl : (head20 a b n).length = 20 := head20_len a b n
  have hK := clone_s 20 (hdA n ++ [(((65535 - s) / 256 : Nat) : Int), (((65535 - s) % 256 : Nat) : Int)] ++ hdB a b) (by simp [hdA_len, hdB_len]) (by omega)
  rw [hP]
  generalize (((20 + n) / 256 : Nat) : Int) = q1 at *
  generalize (((20 + n) % 256 : Nat) : Int) = q2 at *
  generalize (((65535 - s) / 256 : Nat) : Int) = q3 at *
  generalize (((65535 - s) % 256 : Nat) : Int) = q4 at *
  have k1 : bs [69, 0, q1, q2, 0, 0, 0, 0, 64, 253, 0, 0] ++ bs (beN 4 a) = bs (hdA n ++ [0, 0] ++ beN 4 a) := by rw [bs_appd, hH]
  have k2 : bs (hdA n ++ [0, 0] ++ beN 4 a) ++ bs (beN 4 b) = bs (head20 a b n) := by rw [bs_appd, hH2]
  have k3 : setR (bs (head20 a b n)) 10 [.v (.int .u8 q3)] = bs ((head20 a b n).set 10 q3) := bs_set (by omega)
  have k4 : setR (bs ((head20 a b n).set 10 q3)) 11 [.v (.int .u8 q4)] = bs (hdA n ++ [q3, q4] ++ hdB a b) := by
    rw [bs_set (by rw [List.length_set]; omega)]
    rw [show head20 a b n = hdA n ++ [0, 0] ++ hdB a b from rfl, hset]
  have l1 : (bs (head20 a b n)).length = 20 := by rw [bs_length, hHl]
  have l2 : (bs ((head20 a b n).set 10 q3)).length = 20 := by rw [bs_length, List.length_set, hHl]
  have k5 : bs (hdA n ++ [q3, q4] ++ hdB a b) ++ bs xs = bs (hdA n ++ [q3, q4] ++ hdB a b ++ xs) := bs_appd
  generalize hdA n ++ [0, 0] ++ beN 4 a = L1 at *
  generalize (head20 a b n).set 10 q3 = L3 at *
  generalize head20 a b n = L2 at *
  generalize hdA n ++ [q3, q4] ++ hdB a b = L4 at *
  unfold pkt at *
  refine fn_intro Try.func80 rfl (Nat.le_of_ble_eq_true rfl) fun w0 A => ?_
  refine awp_seq ?_
  refine awp_text (by kernel_rfl) ?_
  (refine r_run (a_box (X := .agg _) 1 rfl) rfl rfl ⟨rfl, trivial⟩ ?_)
  (refine r_pure (a_assign (r := .p _)) rfl rfl ?_)
  (refine r_pure (a_assign (r := .p _)) rfl rfl ?_)
  refine arun_nil ?_
  refine awp_seq (awp_seq ?_)
  refine awp_text (by kernel_rfl) ?_
  (refine r_run (a_loadN Try.underlying44 rfl sz44 (by first | exact Nat.le_of_ble_eq_true rfl | omega | (simp only [AV.cells, List.length_map]; omega)) (by first | exact take_all (by first | assumption | exact Nat.eq_of_beq_eq_true rfl | (simp only [AV.cells, List.length_map]; first | assumption | omega)) | (simp only [List.take_succ_cons, List.take_zero, List.drop_succ_cons, List.drop_zero]; rfl) | rfl)) rfl rfl ⟨rfl, trivial⟩ ?_)
  (refine r_callS (fun n => 9 + 1000 * n) (hC) rfl rfl Try.func106 rfl rfl (by first | rfl | simp [AV.okInL, AV.okIn, okInL_map]) rfl rfl rfl (by first | exact trivial | exact ⟨rfl, trivial⟩ | exact ⟨rfl, rfl, trivial⟩) rfl rfl rfl ?_)
  (refine r_pure (a_assign (r := .p _)) rfl rfl ?_)
  refine arun_nil ?_
  refine awp_seq ?_
  refine awp_text (by kernel_rfl) ?_
  (refine r_pure (a_move (r := .p _)) rfl rfl ?_)
  (refine r_pure a_neq rfl rfl ?_)
  refine arun_nil ?_
  refine thn_n ?_
  refine awp_cond _ rfl (fun h => ?_) (fun h => ?_)
  · cases h
  clear h
  refine awp_skip (awp_seq ?_)
  refine awp_text (by kernel_rfl) ?_
  (refine r_pure (b_fieldAddr fi44_2 rfl) rfl rfl ?_)
  (refine r_run (a_load1 Try.underlying42 rfl (by first | rfl | assumption)) rfl rfl ⟨rfl, trivial⟩ ?_)
  (refine r_pure (a_lenS Try.underlying42) rfl rfl ?_)
  (refine r_pure (a_add (by first | exact IntWalk.i64_in _ (by omega) | rfl)) rfl rfl ?_)
  (refine r_pure (a_assign (r := .p _)) rfl rfl ?_)
  refine arun_nil ?_
  refine awp_seq ?_
  refine awp_text (by kernel_rfl) ?_
  (refine r_pure (a_move (r := .p _)) rfl rfl ?_)
  (refine r_pure (a_shr (by omega) e1) rfl rfl ?_)
  (refine r_pure (a_conv Try.underlying3 Try.underlying5 w1) rfl rfl ?_)
  (refine r_pure (a_move (r := .p _)) rfl rfl ?_)
  (refine r_pure (a_conv Try.underlying3 Try.underlying5 w2) rfl rfl ?_)
  (refine r_run (xs := [.p (.v (.int .u8 69)), .p (.v (.int .u8 0)), .p (.v (.int .u8 q1)), .p (.v (.int .u8 q2)), .p (.v (.int .u8 0)), .p (.v (.int .u8 0)), .p (.v (.int .u8 0)), .p (.v (.int .u8 0)), .p (.v (.int .u8 64)), .p (.v (.int .u8 253)), .p (.v (.int .u8 0)), .p (.v (.int .u8 0))]) (a_buildSlice (es := [.p (.v (.int .u8 69)), .p (.v (.int .u8 0)), .p (.v (.int .u8 q1)), .p (.v (.int .u8 q2)), .p (.v (.int .u8 0)), .p (.v (.int .u8 0)), .p (.v (.int .u8 0)), .p (.v (.int .u8 0)), .p (.v (.int .u8 64)), .p (.v (.int .u8 253)), .p (.v (.int .u8 0)), .p (.v (.int .u8 0))]) (cs := (bs [69, 0, q1, q2, 0, 0, 0, 0, 64, 253, 0, 0])) 22 Try.underlying42 sz5 zc5 (Nat.le_of_ble_eq_true rfl) (Nat.le_of_ble_eq_true rfl) rfl (by kernel_rfl) (by kernel_rfl) (by kernel_rfl) (Nat.le_of_ble_eq_true rfl)) (by first | rfl | kernel_rfl) rfl ⟨rfl, trivial⟩ ?_)
  (refine r_pure (a_assign (r := .row _)) rfl rfl ?_)
  refine arun_nil ?_
  refine awp_seq ?_
  refine awp_draw 8 (by kernel_rfl) ?_
  (refine r_pure (a_move (r := .row _)) rfl rfl ?_)
  (refine r_pure (b_fieldAddr fi44_0 rfl) rfl rfl ?_)
  (refine r_run (a_load1 Try.underlying26 rfl (by first | rfl | assumption)) rfl rfl ⟨rfl, trivial⟩ ?_)
  (refine r_callV (fun n => 26 + 1000 * n) (hF1) rfl rfl Try.func107 rfl rfl (by first | rfl | simp [AV.noSl, AV.noSlL, AObj.noSl, PV.isV, bs_noSl]) (by first | rfl | simp [AV.noSl, AV.noSlL, AObj.noSl, PV.isV, bs_noSl]) rfl rfl rfl (by first | exact trivial | exact ⟨rfl, trivial⟩ | exact ⟨rfl, rfl, trivial⟩) rfl rfl rfl ?_)
  (refine r_run (a_append 27 Try.underlying42 eo5 (src_row) (by simp only [maxLen]; omega) (by omega) (show _ = 16 by omega) k1) rfl rfl ⟨rfl, rfl, rfl, trivial⟩ ?_)
  (refine r_pure (b_fieldAddr fi44_1 rfl) rfl rfl ?_)
  (refine r_run (a_load1 Try.underlying26 rfl (by first | rfl | assumption)) rfl rfl ⟨rfl, trivial⟩ ?_)
  (refine r_callV (fun n => 30 + 1000 * n) (hF2) rfl rfl Try.func107 rfl rfl (by first | rfl | simp [AV.noSl, AV.noSlL, AObj.noSl, PV.isV, bs_noSl]) (by first | rfl | simp [AV.noSl, AV.noSlL, AObj.noSl, PV.isV, bs_noSl]) rfl rfl rfl (by first | exact trivial | exact ⟨rfl, trivial⟩ | exact ⟨rfl, rfl, trivial⟩) rfl rfl rfl ?_)
  (refine r_run (a_append 31 Try.underlying42 eo5 (src_row) (by simp only [maxLen]; omega) (by omega) (show _ = 20 by omega) k2) rfl rfl ⟨rfl, rfl, rfl, trivial⟩ ?_)
  (refine r_pure (a_assign (r := .row _)) rfl rfl ?_)
  refine arun_nil ⟨by kernel_rfl, ?_⟩
  refine awp_seq ?_
  refine awp_text (by kernel_rfl) ?_
  (refine r_pure (a_move (r := .row _)) rfl rfl ?_)
  (refine r_callV (fun n => 33 + 1000 * n) (hS) rfl rfl Try.func108 rfl rfl (by first | rfl | simp [AV.noSl, AV.noSlL, AObj.noSl, PV.isV, bs_noSl]) (by first | rfl | simp [AV.noSl, AV.noSlL, AObj.noSl, PV.isV, bs_noSl]) rfl rfl rfl (by first | exact trivial | exact ⟨rfl, trivial⟩ | exact ⟨rfl, rfl, trivial⟩) rfl rfl rfl ?_)
  (refine r_pure (a_assign (r := .p _)) rfl rfl ?_)
  refine arun_nil ?_
  refine awp_seq ?_
  refine awp_text (by kernel_rfl) ?_
  (refine r_pure (a_move (r := .row _)) rfl rfl ?_)
  (refine r_pure (a_move (r := .row _)) rfl rfl ?_)
  (refine r_pure (a_move (r := .p _)) rfl rfl ?_)
  (refine r_pure (a_shr (by omega) e2) rfl rfl ?_)
  (refine r_pure (a_conv Try.underlying143 Try.underlying5 w3) rfl rfl ?_)
  (refine r_pure (a_move (r := .p _)) rfl rfl ?_)
  (refine r_pure (a_conv Try.underlying143 Try.underlying5 w4) rfl rfl ?_)
  (refine r_run (a_indexAddrR Try.underlying42 sz5 (by omega) (by omega) (show _ = 10 by omega)) rfl rfl ⟨rfl, trivial⟩ ?_)
  (refine r_run (a_storeR (Y := .p _) sz5 rfl rfl (by first | rfl | omega) (by omega) k3) rfl rfl ⟨rfl, trivial⟩ ?_)
  (refine r_run (a_indexAddrR Try.underlying42 sz5 (by omega) (by omega) (show _ = 11 by omega)) rfl rfl ⟨rfl, trivial⟩ ?_)
  (refine r_run (a_storeR (Y := .p _) sz5 rfl rfl (by first | rfl | omega) (by omega) k4) rfl rfl ⟨rfl, trivial⟩ ?_)
  refine arun_nil ?_
  refine awp_seq ?_
  refine awp_draw 6 (by kernel_rfl) ?_
  (refine r_pure (a_move (r := .row _)) rfl rfl ?_)
  (refine r_callV (fun n => 44 + 1000 * n) (hK) rfl rfl Try.func79 rfl rfl (by first | rfl | simp [AV.noSl, AV.noSlL, AObj.noSl, PV.isV, bs_noSl]) (by first | rfl | simp [AV.noSl, AV.noSlL, AObj.noSl, PV.isV, bs_noSl]) rfl rfl rfl (by first | exact trivial | exact ⟨rfl, trivial⟩ | exact ⟨rfl, rfl, trivial⟩) rfl rfl rfl ?_)
  (refine r_pure (b_fieldAddr fi44_2 rfl) rfl rfl ?_)
  (refine r_run (a_load1 Try.underlying42 rfl (by first | rfl | assumption)) rfl rfl ⟨rfl, trivial⟩ ?_)
  (refine r_run (a_append 47 Try.underlying42 eo5 (src_sl) (by simp only [maxLen]; omega) (by omega) (show _ = 20 + n by omega) k5) rfl rfl ⟨rfl, rfl, trivial⟩ ?_)
  (refine r_pure (a_assign (r := .row _)) rfl rfl ?_)
  (refine r_pure (a_assign (r := .p _)) rfl rfl ?_)
  refine arun_nil ⟨by kernel_rfl, ?_⟩
  refine awp_ret ?_
  refine ⟨(by first | exact .inl rfl | exact .inr rfl), _, (fun _ => 47), (.tmp _ _ _ _ rfl (.tmp _ _ _ _ rfl .nil)), ?_, rfl, ?_, rfl⟩
  · exact rfl
  · exact ⟨⟨rfl, rfl⟩, trivial⟩

/-! Decode -/
def pkE (n : Nat) (xs : List Int) : Int := if n < 20 then 8 else if 220 < n then 1 else if packB (adr xs 12) (adr xs 16) (n - 20) (xs.drop 20) = xs then 0 else 3
def pkV (e : Int) (n : Nat) (xs : List Int) : AV := if e = 0 then .tup [.agg (pkt (adr xs 12) (adr xs 16) (n - 20) (xs.drop 20)), .p (.v (.int .i64 e))] else .tup [.agg [.p (.v (.int .u32 0)), .p (.v (.int .u32 0)), .p (.v (.slice none 0 0))], .p (.v (.int .i64 e))]
theorem pkV_bad {e : Int} {n : Nat} {xs : List Int} (h : e ≠ 0) : pkV e n xs = .tup [.agg [.p (.v (.int .u32 0)), .p (.v (.int .u32 0)), .p (.v (.slice none 0 0))], .p (.v (.int .i64 e))] := if_neg h
theorem pkV_good {n : Nat} {xs : List Int} : pkV 0 n xs = .tup [.agg (pkt (adr xs 12) (adr xs 16) (n - 20) (xs.drop 20)), .p (.v (.int .i64 0))] := if_pos rfl

theorem bs_sub {xs : List Int} {n a k : Nat} (hx : xs.length = n) (hk : n - a = k) : ((bs xs).drop (a * 1)).take (k * 1) = bs (xs.drop a) := by
  rw [Nat.mul_one, Nat.mul_one, List.take_of_length_le (by rw [List.length_drop, bs_length]; omega)]
  simp [bs]

set_option maxHeartbeats 2000000 in
theorem dec_s (n : Nat) (xs : List Int) (hx : xs.length = n) (hB : isB xs) (hn : n ≤ 140737488355328) : Fn Try.prog 30 [.p (.sl n 1 (bs xs))] (pkV (pkE n xs) n xs) [] := by
  refine fn_intro Try.func30 rfl (Nat.le_of_ble_eq_true rfl) fun w0 A => ?_
  refine awp_seq ?_
  refine awp_text (by kernel_rfl) ?_
  (refine r_run (a_alloc 2 zr44 rfl) rfl rfl ⟨rfl, trivial⟩ ?_)
  (refine r_pure (a_assign (r := .p _)) rfl rfl ?_)
  refine arun_nil ?_
  refine awp_seq (awp_seq ?_)
  refine awp_text (by kernel_rfl) ?_
  (refine r_pure (a_move (r := .p _)) rfl rfl ?_)
  (refine r_pure (a_lenS Try.underlying42) rfl rfl ?_)
  (refine r_pure a_lss rfl rfl ?_)
  refine arun_nil ?_
  refine thn_n ?_
  refine awp_cond _ rfl (fun h => ?_) (fun h => ?_)
  · have h1 : n < 20 := by simp at h; omega
    have e : pkE n xs = 8 := by unfold pkE; rw [if_pos h1]
    rw [e, pkV_bad (by omega)]
    refine awp_seq ?_
    refine awp_text (by kernel_rfl) ?_
    (refine r_pure (b_build pl44 zr44 rfl rfl) rfl rfl ?_)
    (refine r_run (a_storeAll (Y := .agg _) sz44 rfl (by first | exact Nat.eq_of_beq_eq_true rfl | (simp only [AV.cells, List.length_map]; first | assumption | omega)) (Nat.eq_of_beq_eq_true rfl)) rfl rfl ⟨rfl, trivial⟩ ?_)
    (refine r_pure (a_assign (r := .p _)) rfl rfl ?_)
    refine arun_nil ?_
    refine awp_ret (thn_r ?_)
    refine ⟨(by first | exact .inl rfl | exact .inr rfl), _, (fun o => o), (.cellN _ _ _ _ _ _ _ _ _ rfl rfl Try.underlying44 rfl sz44 (by first | assumption | kernel_rfl) (.tmp _ _ _ _ rfl .nil)), ?_, rfl, ?_, rfl⟩
    · exact rfl
    · exact trivial
  have h20 : ¬ n < 20 := by simp at h; omega
  clear h
  refine awp_skip (awp_seq (awp_seq ?_))
  refine awp_text (by kernel_rfl) ?_
  (refine r_pure (a_move (r := .p _)) rfl rfl ?_)
  (refine r_pure (a_lenS Try.underlying42) rfl rfl ?_)
  (refine r_pure a_gtr rfl rfl ?_)
  refine arun_nil ?_
  refine thn_n ?_
  refine awp_cond _ rfl (fun h => ?_) (fun h => ?_)
  · have h1 : 220 < n := by simp at h; omega
    have e : pkE n xs = 1 := by unfold pkE; rw [if_neg h20, if_pos h1]
    rw [e, pkV_bad (by omega)]
    refine awp_seq ?_
    refine awp_text (by kernel_rfl) ?_
    (refine r_pure (b_build pl44 zr44 rfl rfl) rfl rfl ?_)
    (refine r_run (a_storeAll (Y := .agg _) sz44 rfl (by first | exact Nat.eq_of_beq_eq_true rfl | (simp only [AV.cells, List.length_map]; first | assumption | omega)) (Nat.eq_of_beq_eq_true rfl)) rfl rfl ⟨rfl, trivial⟩ ?_)
    (refine r_pure (a_assign (r := .p _)) rfl rfl ?_)
    refine arun_nil ?_
    refine awp_ret (thn_r ?_)
    refine ⟨(by first | exact .inl rfl | exact .inr rfl), _, (fun o => o), (.cellN _ _ _ _ _ _ _ _ _ rfl rfl Try.underlying44 rfl sz44 (by first | assumption | kernel_rfl) (.tmp _ _ _ _ rfl .nil)), ?_, rfl, ?_, rfl⟩
    · exact rfl
    · exact trivial
  have h220 : ¬ 220 < n := by simp at h; omega
  clear h
  have hE : pkE n xs = if packB (adr xs 12) (adr xs 16) (n - 20) (xs.drop 20) = xs then 0 else 3 := by unfold pkE; rw [if_neg h20, if_neg h220]
  have a1 := address_s (n - 12) (xs.drop 12) (by rw [List.length_drop, hx]) (isB_drop hB _) (by omega) (by omega)
  have a2 := address_s (n - 16) (xs.drop 16) (by rw [List.length_drop, hx]) (isB_drop hB _) (by omega) (by omega)
  rw [adr_drop] at a1 a2
  have hl : (xs.drop 20).length = n - 20 := by rw [List.length_drop, hx]
  have c1 := clone_s (n - 20) (xs.drop 20) hl (by omega)
  have hBd := isB_drop hB 20
  have b1 := adr_lt hB 12
  have b2 := adr_lt hB 16
  have hEn := enc_s (adr xs 12) (adr xs 16) (n - 20) (xs.drop 20) b1 b2 hl hBd (by omega)
  have hPB := packB_B (adr xs 12) (adr xs 16) (n - 20) (xs.drop 20) hBd
  have hQ := bytesEqual_s (20 + (n - 20)) n (packB (adr xs 12) (adr xs 16) (n - 20) (xs.drop 20)) xs hPB hB
  have s1 := bs_sub (a := 12) hx rfl
  have s2 := bs_sub (a := 16) hx rfl
  have s3 := bs_sub (a := 20) hx rfl
  rw [hE]
  unfold pkV
  generalize packB (adr xs 12) (adr xs 16) (n - 20) (xs.drop 20) = PB at *
  generalize adr xs 12 = A1 at *
  generalize adr xs 16 = A2 at *
  unfold pkt at *
  generalize xs.drop 20 = D at *
  generalize xs.drop 12 = D1 at *
  generalize xs.drop 16 = D2 at *
  refine awp_skip (awp_seq ?_)
  refine awp_draw 8 (by kernel_rfl) ?_
  (refine r_pure (a_move (r := .p _)) rfl rfl ?_)
  (refine r_pure (a_sliceS (L := (some (_, _))) (H := none) Try.underlying42 sz5 ⟨by omega, rfl⟩ rfl (by omega) (by omega) rfl s1) rfl rfl ?_)
  (refine r_callV (fun n => 17 + 1000 * n) (a1) rfl rfl Try.func78 rfl rfl (by first | rfl | simp [AV.noSl, AV.noSlL, AObj.noSl, PV.isV, bs_noSl]) (by first | rfl | simp [AV.noSl, AV.noSlL, AObj.noSl, PV.isV, bs_noSl]) rfl rfl rfl (by first | exact trivial | exact ⟨rfl, trivial⟩ | exact ⟨rfl, rfl, trivial⟩) rfl rfl rfl ?_)
  (refine r_pure (a_move (r := .p _)) rfl rfl ?_)
  (refine r_pure (a_sliceS (L := (some (_, _))) (H := none) Try.underlying42 sz5 ⟨by omega, rfl⟩ rfl (by omega) (by omega) rfl s2) rfl rfl ?_)
  (refine r_callV (fun n => 20 + 1000 * n) (a2) rfl rfl Try.func78 rfl rfl (by first | rfl | simp [AV.noSl, AV.noSlL, AObj.noSl, PV.isV, bs_noSl]) (by first | rfl | simp [AV.noSl, AV.noSlL, AObj.noSl, PV.isV, bs_noSl]) rfl rfl rfl (by first | exact trivial | exact ⟨rfl, trivial⟩ | exact ⟨rfl, rfl, trivial⟩) rfl rfl rfl ?_)
  (refine r_pure (a_move (r := .p _)) rfl rfl ?_)
  (refine r_pure (a_sliceS (L := (some (_, _))) (H := none) Try.underlying42 sz5 ⟨by omega, rfl⟩ rfl (by omega) (by omega) rfl s3) rfl rfl ?_)
  (refine r_callV (fun n => 23 + 1000 * n) (c1) rfl rfl Try.func79 rfl rfl (by first | rfl | simp [AV.noSl, AV.noSlL, AObj.noSl, PV.isV, bs_noSl]) (by first | rfl | simp [AV.noSl, AV.noSlL, AObj.noSl, PV.isV, bs_noSl]) rfl rfl rfl (by first | exact trivial | exact ⟨rfl, trivial⟩ | exact ⟨rfl, rfl, trivial⟩) rfl rfl rfl ?_)
  (refine r_pure (b_build pl44 zr44 rfl rfl) rfl rfl ?_)
  (refine r_run (a_alloc 4 zr44 rfl) rfl rfl ⟨rfl, trivial⟩ ?_)
  (refine r_run (a_storeAll (Y := .agg _) sz44 rfl (by first | exact Nat.eq_of_beq_eq_true rfl | (simp only [AV.cells, List.length_map]; first | assumption | omega)) (Nat.eq_of_beq_eq_true rfl)) rfl rfl ⟨rfl, trivial⟩ ?_)
  refine arun_nil ⟨by kernel_rfl, ?_⟩
  refine awp_seq (awp_seq ?_)
  refine awp_text (by kernel_rfl) ?_
  (refine r_run (a_loadN Try.underlying44 rfl sz44 (by first | exact Nat.le_of_ble_eq_true rfl | omega | (simp only [AV.cells, List.length_map]; omega)) (by first | exact take_all (by first | assumption | exact Nat.eq_of_beq_eq_true rfl | (simp only [AV.cells, List.length_map]; first | assumption | omega)) | (simp only [List.take_succ_cons, List.take_zero, List.drop_succ_cons, List.drop_zero]; rfl) | rfl)) rfl rfl ⟨rfl, trivial⟩ ?_)
  (refine r_callV (fun n => 27 + 1000 * n) (hEn) rfl rfl Try.func80 rfl rfl (by first | rfl | simp [AV.noSl, AV.noSlL, AObj.noSl, PV.isV, bs_noSl]) (by first | rfl | simp [AV.noSl, AV.noSlL, AObj.noSl, PV.isV, bs_noSl]) rfl rfl rfl (by first | exact trivial | exact ⟨rfl, trivial⟩ | exact ⟨rfl, rfl, trivial⟩) rfl rfl rfl ?_)
  (refine r_pure (a_move (r := .tup _)) rfl rfl ?_)
  (refine r_pure (a_extract rfl) rfl rfl ?_)
  (refine r_pure (a_extract rfl) rfl rfl ?_)
  (refine r_pure (a_assign (r := .row _)) rfl rfl ?_)
  (refine r_pure (a_assign (r := .p _)) rfl rfl ?_)
  refine arun_nil ?_
  refine awp_seq ?_
  refine awp_text (by kernel_rfl) ?_
  (refine r_pure (a_move (r := .row _)) rfl rfl ?_)
  (refine r_pure (a_move (r := .p _)) rfl rfl ?_)
  (refine r_callV (fun n => 32 + 1000 * n) (hQ) rfl rfl Try.func81 rfl rfl (by first | rfl | simp [AV.noSl, AV.noSlL, AObj.noSl, PV.isV, bs_noSl]) (by first | rfl | simp [AV.noSl, AV.noSlL, AObj.noSl, PV.isV, bs_noSl]) rfl rfl rfl (by first | exact trivial | exact ⟨rfl, trivial⟩ | exact ⟨rfl, rfl, trivial⟩) rfl rfl rfl ?_)
  (refine r_pure a_not rfl rfl ?_)
  refine arun_nil ?_
  refine thn_n ?_
  refine awp_cond _ rfl (fun h => ?_) (fun h => ?_)
  · have h1 : ¬ PB = xs := by simpa using h
    rw [if_neg h1]
    refine awp_seq ?_
    refine awp_text (by kernel_rfl) ?_
    (refine r_pure (b_build pl44 zr44 rfl rfl) rfl rfl ?_)
    (refine r_run (a_storeAll (Y := .agg _) sz44 rfl (by first | exact Nat.eq_of_beq_eq_true rfl | (simp only [AV.cells, List.length_map]; first | assumption | omega)) (Nat.eq_of_beq_eq_true rfl)) rfl rfl ⟨rfl, trivial⟩ ?_)
    (refine r_pure (a_assign (r := .p _)) rfl rfl ?_)
    refine arun_nil ?_
    refine awp_ret (thn_r ?_)
    refine ⟨(by first | exact .inl rfl | exact .inr rfl), _, (fun o => o), (.cellN _ _ _ _ _ _ _ _ _ rfl rfl Try.underlying44 rfl sz44 (by first | assumption | kernel_rfl) (.tmp _ _ _ _ rfl .nil)), ?_, rfl, ?_, rfl⟩
    · exact rfl
    · exact trivial
  · have h1 : PB = xs := by simpa using h
    rw [if_pos h1]
    refine awp_skip (awp_seq ?_)
    refine awp_text (by kernel_rfl) ?_
    (refine r_run (a_loadN Try.underlying44 rfl sz44 (by first | exact Nat.le_of_ble_eq_true rfl | omega | (simp only [AV.cells, List.length_map]; omega)) (by first | exact take_all (by first | assumption | exact Nat.eq_of_beq_eq_true rfl | (simp only [AV.cells, List.length_map]; first | assumption | omega)) | (simp only [List.take_succ_cons, List.take_zero, List.drop_succ_cons, List.drop_zero]; rfl) | rfl)) rfl rfl ⟨rfl, trivial⟩ ?_)
    (refine r_run (a_storeAll (Y := .agg _) sz44 rfl (by first | exact Nat.eq_of_beq_eq_true rfl | (simp only [AV.cells, List.length_map]; first | assumption | omega)) (Nat.eq_of_beq_eq_true rfl)) rfl rfl ⟨rfl, trivial⟩ ?_)
    (refine r_pure (a_assign (r := .p _)) rfl rfl ?_)
    refine arun_nil ?_
    refine awp_ret ?_
    refine ⟨(by first | exact .inl rfl | exact .inr rfl), _, (fun o => o), (.cellN _ _ _ _ _ _ _ _ _ rfl rfl Try.underlying44 rfl sz44 (by first | assumption | kernel_rfl) (.tmp _ _ _ _ rfl .nil)), ?_, rfl, ?_, rfl⟩
    · exact rfl
    · exact trivial
end Go.Proofs.Ytfnipohlkifkhaa
