/- The reference's packets, and the law PacketDecodes, over data. -/
import Derived.Test.YtfnipohlkifkhaaPk2
import Derived.Test.YtfnipohlkifkhaaSm
namespace Go.Proofs.Ytfnipohlkifkhaa
open Go.RowKit Go.Sort
set_option linter.unusedVariables false
set_option linter.unusedSimpArgs false
set_option maxRecDepth 100000

theorem str_app (xs ys : List Int) : strOfNums xs ++ strOfNums ys = strOfNums (xs ++ ys) := by
  apply ByteArray.ext
  simp [strOfNums, ByteArray.data_append]
def altSum (xs : List Int) (k : Nat) : Nat := ((List.range k).map fun j => if j % 2 = 0 then 256 * bN xs j else bN xs j).sum
theorem altSum_succ (xs : List Int) (k : Nat) : altSum xs (k + 1) = altSum xs k + (if k % 2 = 0 then 256 * bN xs k else bN xs k) := by simp [altSum, List.range_succ]
theorem altSum_pair (xs : List Int) (k : Nat) : altSum xs (2 * k) = pairSum xs k := by
  induction k with
  | zero => rfl
  | succ k ih =>
    rw [show 2 * (k + 1) = 2 * k + 1 + 1 by omega, altSum_succ, altSum_succ, ih, pairSum_succ, if_pos (by omega), if_neg (by omega)]
    omega
theorem altSum_le {xs : List Int} (h : isB xs) (k : Nat) : altSum xs k ≤ 65280 * k := by
  induction k with
  | zero => simp [altSum]
  | succ k ih => rw [altSum_succ]; have := bN_lt h k; split <;> omega

set_option maxHeartbeats 2000000 in
theorem refPack_s (a b n : Nat) (xs : List Int) (ha : a < 4294967296) (hb : b < 4294967296) (hx : xs.length = n) (hB : isB xs) (hn : n ≤ 200) : Fn Try.prog 82 [.agg (pkt a b n xs)] (.tup [.row 0, .p (.v (.int .i64 0))]) [(0, .row 5 1 (20 + n) (bs (packB a b n xs)))] := by
  have g1 := bigN_s 2 (20 + n) (by omega) (by omega)
  rw [show ((20 + n : Nat) : Int) = 20 + (n : Int) by omega] at g1
  have g2 := bigN_s 4 a (by omega) (by omega)
  have g3 := bigN_s 4 b (by omega) (by omega)
  have s1 : (⟨#[69, 0]⟩ : ByteArray) ++ strOfNums (beN 2 (20 + n)) = strOfNums ([69, 0] ++ beN 2 (20 + n)) := str_app [69, 0] _
  have s2 : strOfNums ([69, 0] ++ beN 2 (20 + n)) ++ (⟨#[0, 0, 0, 0, 64, 253]⟩ : ByteArray) = strOfNums (hdA n) := str_app _ [0, 0, 0, 0, 64, 253]
  have s3 : strOfNums (beN 4 a) ++ strOfNums (beN 4 b) = strOfNums (hdB a b) := str_app _ _
  have s4 : strOfNums (hdA n) ++ (⟨#[0, 0]⟩ : ByteArray) = strOfNums (hdA n ++ [0, 0]) := str_app _ [0, 0]
  have s5 : strOfNums (hdA n ++ [0, 0]) ++ strOfNums (hdB a b) = strOfNums (head20 a b n) := str_app _ _
  have z1 : (strOfNums (beN 2 (20 + n))).size = 2 := by rw [nums_size, beN_len]
  have z2 : (strOfNums ([69, 0] ++ beN 2 (20 + n))).size = 4 := by rw [nums_size, List.length_append, beN_len]; rfl
  have z3 : (strOfNums (beN 4 a)).size = 4 := by rw [nums_size, beN_len]
  have z4 : (strOfNums (beN 4 b)).size = 4 := by rw [nums_size, beN_len]
  have z5 : (strOfNums (hdA n)).size = 10 := by rw [nums_size, hdA_len]
  have z6 : (strOfNums (hdB a b)).size = 8 := by rw [nums_size, hdB_len]
  have z7 : (strOfNums (hdA n ++ [0, 0])).size = 12 := by rw [nums_size, List.length_append, hdA_len]; rfl
  have z8 : (strOfNums (head20 a b n)).size = 20 := by rw [nums_size, head20_len]
  have y1 : (⟨#[69, 0]⟩ : ByteArray).size = 2 := rfl
  have y2 : (⟨#[0, 0, 0, 0, 64, 253]⟩ : ByteArray).size = 6 := rfl
  have y3 : (⟨#[0, 0]⟩ : ByteArray).size = 2 := rfl
  have hHB := head20_B a b n
  have hsb := sb_nums hHB
  have hHl := head20_len a b n
  have hSO : fold16 (altSum (head20 a b n) 20) = sumOf (head20 a b n) := by
    unfold sumOf; rw [hHl, ← altSum_pair]
  have hPB : packB a b n xs = hdA n ++ beN 2 (65535 - sumOf (head20 a b n)) ++ hdB a b ++ xs := rfl
  have hPBB := packB_B a b n xs hB
  rw [hPB] at hPBB
  rw [hPB]
  clear hPB
  generalize hdA n = HA at *
  generalize hdB a b = HB at *
  generalize [69, 0] ++ beN 2 (20 + n) = HC at *
  generalize HA ++ [0, 0] = HD at *
  generalize head20 a b n = HH at *
  generalize beN 2 (20 + n) = C1 at *
  generalize beN 4 a = C2 at *
  generalize beN 4 b = C3 at *
  unfold pkt
  refine fn_intro Try.func82 rfl (Nat.le_of_ble_eq_true rfl) fun w0 A => ?_
  refine awp_seq ?_
  refine awp_text (by kernel_rfl) ?_
  (refine r_run (a_box (X := .agg _) 1 rfl) rfl rfl ⟨rfl, trivial⟩ ?_)
  (refine r_pure (a_assign (r := .p _)) rfl rfl ?_)
  (refine r_pure (a_assign (r := .p _)) rfl rfl ?_)
  refine arun_nil ?_
  refine awp_seq (awp_seq ?_)
  refine awp_text (by kernel_rfl) ?_
  (refine r_pure (b_fieldAddr fi44_2 rfl) rfl rfl ?_)
  (refine r_run (a_load1 Try.underlying42 rfl (by first | rfl | assumption)) rfl rfl ⟨rfl, trivial⟩ ?_)
  (refine r_pure (a_lenS Try.underlying42) rfl rfl ?_)
  (refine r_pure a_gtr rfl rfl ?_)
  refine arun_nil ?_
  refine thn_n ?_
  refine awp_cond _ rfl (fun h => ?_) (fun h => ?_)
  · simp at h; omega
  clear h
  refine awp_skip (awp_seq ?_)
  refine awp_text (by kernel_rfl) ?_
  (refine r_pure (b_fieldAddr fi44_2 rfl) rfl rfl ?_)
  (refine r_run (a_load1 Try.underlying42 rfl (by first | rfl | assumption)) rfl rfl ⟨rfl, trivial⟩ ?_)
  (refine r_pure (a_lenS Try.underlying42) rfl rfl ?_)
  (refine r_pure (a_add (by first | exact IntWalk.i64_in _ (by omega) | rfl)) rfl rfl ?_)
  (refine r_callV (fun n => 17 + 1000 * n) (g1) rfl rfl Try.func109 rfl rfl (by first | rfl | simp [AV.noSl, AV.noSlL, AObj.noSl, PV.isV, bs_noSl]) (by first | rfl | simp [AV.noSl, AV.noSlL, AObj.noSl, PV.isV, bs_noSl]) rfl rfl rfl (by first | exact trivial | exact ⟨rfl, trivial⟩ | exact ⟨rfl, rfl, trivial⟩) rfl rfl rfl ?_)
  (refine r_run (a_b2s Try.underlying42 Try.underlying5 Try.underlying9 (src_row) rfl rfl) rfl rfl ⟨rfl, trivial⟩ ?_)
  (refine r_pure (a_cat (by omega) s1) rfl rfl ?_)
  (refine r_pure (a_cat (by omega) s2) rfl rfl ?_)
  (refine r_pure (a_assign (r := .p _)) rfl rfl ?_)
  refine arun_nil ?_
  refine awp_seq ?_
  refine awp_draw 8 (by kernel_rfl) ?_
  (refine r_pure (b_fieldAddr fi44_0 rfl) rfl rfl ?_)
  (refine r_run (a_load1 Try.underlying26 rfl (by first | rfl | assumption)) rfl rfl ⟨rfl, trivial⟩ ?_)
  (refine r_pure (a_conv Try.underlying26 Try.underlying3 (by first | exact IntWalk.i64_in _ (by omega) | rfl)) rfl rfl ?_)
  (refine r_callV (fun n => 24 + 1000 * n) (g2) rfl rfl Try.func109 rfl rfl (by first | rfl | simp [AV.noSl, AV.noSlL, AObj.noSl, PV.isV, bs_noSl]) (by first | rfl | simp [AV.noSl, AV.noSlL, AObj.noSl, PV.isV, bs_noSl]) rfl rfl rfl (by first | exact trivial | exact ⟨rfl, trivial⟩ | exact ⟨rfl, rfl, trivial⟩) rfl rfl rfl ?_)
  (refine r_run (a_b2s Try.underlying42 Try.underlying5 Try.underlying9 (src_row) rfl rfl) rfl rfl ⟨rfl, trivial⟩ ?_)
  (refine r_pure (b_fieldAddr fi44_1 rfl) rfl rfl ?_)
  (refine r_run (a_load1 Try.underlying26 rfl (by first | rfl | assumption)) rfl rfl ⟨rfl, trivial⟩ ?_)
  (refine r_pure (a_conv Try.underlying26 Try.underlying3 (by first | exact IntWalk.i64_in _ (by omega) | rfl)) rfl rfl ?_)
  (refine r_callV (fun n => 29 + 1000 * n) (g3) rfl rfl Try.func109 rfl rfl (by first | rfl | simp [AV.noSl, AV.noSlL, AObj.noSl, PV.isV, bs_noSl]) (by first | rfl | simp [AV.noSl, AV.noSlL, AObj.noSl, PV.isV, bs_noSl]) rfl rfl rfl (by first | exact trivial | exact ⟨rfl, trivial⟩ | exact ⟨rfl, rfl, trivial⟩) rfl rfl rfl ?_)
  (refine r_run (a_b2s Try.underlying42 Try.underlying5 Try.underlying9 (src_row) rfl rfl) rfl rfl ⟨rfl, trivial⟩ ?_)
  (refine r_pure (a_cat (by omega) s3) rfl rfl ?_)
  (refine r_pure (a_assign (r := .p _)) rfl rfl ?_)
  refine arun_nil ⟨by kernel_rfl, ?_⟩
  refine awp_seq ?_
  refine awp_text (by kernel_rfl) ?_
  (refine r_pure (a_assign (r := .p _)) rfl rfl ?_)
  refine arun_nil ?_
  refine awp_seq (awp_seq ?_)
  refine awp_text (by kernel_rfl) ?_
  (refine r_pure (a_move (r := .p _)) rfl rfl ?_)
  (refine r_pure (a_cat (by omega) s4) rfl rfl ?_)
  (refine r_pure (a_move (r := .p _)) rfl rfl ?_)
  (refine r_pure (a_cat (by omega) s5) rfl rfl ?_)
  (refine r_run (a_s2b 36 Try.underlying9 Try.underlying42 Try.underlying5 (by first | omega | (simp only [maxLen]; omega)) z8 hsb) rfl rfl ⟨rfl, trivial⟩ ?_)
  (refine r_run (a_lenR Try.underlying42) rfl rfl ⟨rfl, trivial⟩ ?_)
  (refine r_pure (a_move (r := .p _)) rfl rfl ?_)
  refine arun_nil ?_
  refine awp_block ?_
  refine awp_loopR (fun m st => ∃ k : Nat, m + k = 20 ∧ st = St.of [(1, .ref 1 0), (4, .p (.v (.string (strOfNums HA)))), (5, .p (.v (.string (strOfNums HB)))), (6, .p (.v (.int .i64 (altSum HH k : Nat)))), (36, .row 36), (37, .p (.v (.int .i64 20))), (38, .p (.v (.int .i64 k)))] [(1, .box 44 [.p (.v (.int .u32 a)), .p (.v (.int .u32 b)), .p (.sl n 1 (bs xs))]), (36, .row 5 1 20 (bs HH))]) 20 ?_ ?_
  · refine ⟨_, re_of id _ _ ?_ ?_ rfl, 0, by omega, rfl⟩
    · (repeat (first | exact trivial | (refine ⟨⟨(by first | rfl | (simp; done) | (simp; omega)), rfl⟩, ?_⟩)))
    · exact ⟨⟨rfl, rfl⟩, ⟨rfl, rfl⟩, trivial⟩
  rintro m st ⟨k, hk, rfl⟩
  refine awp_seq ?_
  refine awp_text (by kernel_rfl) ?_
  (refine r_pure a_lss rfl rfl ?_)
  refine arun_nil ?_
  refine awp_seq ?_
  refine awp_cond _ rfl (fun h => ?_) (fun h => ?_)
  · have hlt : k < 20 := by simp at h; omega
    clear h
    have q1 := bN_at hHB (i := k) (by omega)
    have q2 := bN_lt hHB k
    have q3 := altSum_succ HH k
    have q4 := altSum_le hHB k
    generalize bN HH k = y at *
    generalize altSum HH k = S at *
    refine awp_skip (awp_seq (awp_block (awp_seq ?_)))
    refine awp_text (by kernel_rfl) ?_
    (refine r_pure (a_move (r := .p _)) rfl rfl ?_)
    (refine r_run (a_indexAddrR Try.underlying42 sz5 (by omega) (by omega) (show _ = k by omega)) rfl rfl ⟨rfl, trivial⟩ ?_)
    (refine r_run (a_load1r Try.underlying5 rfl (by first | rfl | assumption | ((try simp only [List.getElem?_drop, List.getElem?_take, Int.toNat_natCast, Nat.mul_one, Nat.add_zero, Nat.zero_add]); first | assumption | rfl))) rfl rfl ⟨rfl, trivial⟩ ?_)
    (refine r_pure (a_assign (r := .p _)) rfl rfl ?_)
    (refine r_pure (a_assign (r := .p _)) rfl rfl ?_)
    refine arun_nil ?_
    refine awp_seq ?_
    refine awp_text (by kernel_rfl) ?_
    (refine r_pure (a_move (r := .p _)) rfl rfl ?_)
    (refine r_pure (a_rem (by omega) (by first | exact IntWalk.rem_in _ _ (by omega) | rfl)) rfl rfl ?_)
    (refine r_pure a_eql rfl rfl ?_)
    refine arun_nil ?_
    refine thn_n ?_
    refine awp_join3 (St.of [(1, .ref 1 0), (4, .p (.v (.string (strOfNums HA)))), (5, .p (.v (.string (strOfNums HB)))), (6, .p (.v (.int .i64 (altSum HH (k + 1) : Nat)))), (36, .row 36), (37, .p (.v (.int .i64 20))), (38, .p (.v (.int .i64 k)))] [(1, .box 44 [.p (.v (.int .u32 a)), .p (.v (.int .u32 b)), .p (.sl n 1 (bs xs))]), (36, .row 5 1 20 (bs HH))]) ?_ (fun st' r => awp_re r ?_)
    · skip
      refine awp_cond _ rfl (fun h => ?_) (fun h => ?_)
      · have h1 : k % 2 = 0 := by simp at h; omega
        rw [if_pos h1] at q3
        rw [q3]
        skip
        refine awp_text (by kernel_rfl) ?_
        (refine r_pure (a_move (r := .p _)) rfl rfl ?_)
        (refine r_pure (a_move (r := .p _)) rfl rfl ?_)
        (refine r_pure (a_conv Try.underlying5 Try.underlying3 (by first | exact IntWalk.i64_in _ (by omega) | rfl)) rfl rfl ?_)
        (refine r_pure (a_mul (by first | exact IntWalk.i64_in _ (by omega) | rfl)) rfl rfl ?_)
        (refine r_pure (a_add (by first | exact IntWalk.i64_in _ (by omega) | rfl)) rfl rfl ?_)
        (refine r_pure (a_assign (r := .p _)) rfl rfl ?_)
        refine arun_nil ?_
        refine thn_n ?_
        exact re_of id _ _ ⟨⟨rfl, rfl⟩, ⟨rfl, rfl⟩, ⟨rfl, rfl⟩, ⟨rfl, rfl⟩, ⟨rfl, rfl⟩, ⟨rfl, rfl⟩, ⟨rfl, rfl⟩, trivial⟩ ⟨⟨rfl, rfl⟩, ⟨rfl, rfl⟩, trivial⟩ rfl
      · have h1 : ¬ k % 2 = 0 := by simp at h; omega
        rw [if_neg h1] at q3
        rw [q3]
        skip
        refine awp_text (by kernel_rfl) ?_
        (refine r_pure (a_move (r := .p _)) rfl rfl ?_)
        (refine r_pure (a_move (r := .p _)) rfl rfl ?_)
        (refine r_pure (a_conv Try.underlying5 Try.underlying3 (by first | exact IntWalk.i64_in _ (by omega) | rfl)) rfl rfl ?_)
        (refine r_pure (a_add (by first | exact IntWalk.i64_in _ (by omega) | rfl)) rfl rfl ?_)
        (refine r_pure (a_assign (r := .p _)) rfl rfl ?_)
        refine arun_nil ?_
        refine thn_n ?_
        exact re_of id _ _ ⟨⟨rfl, rfl⟩, ⟨rfl, rfl⟩, ⟨rfl, rfl⟩, ⟨rfl, rfl⟩, ⟨rfl, rfl⟩, ⟨rfl, rfl⟩, ⟨rfl, rfl⟩, trivial⟩ ⟨⟨rfl, rfl⟩, ⟨rfl, rfl⟩, trivial⟩ rfl
    skip
    refine awp_text (by kernel_rfl) ?_
    (refine r_pure (a_add (by first | exact IntWalk.i64_in _ (by omega) | rfl)) rfl rfl ?_)
    (refine r_pure (a_move (r := .p _)) rfl rfl ?_)
    refine arun_nil ?_
    refine thn_n ?_
    refine ⟨m - 1, by omega, _, re_of id _ _ ?_ ?_ rfl, k + 1, by omega, rfl⟩
    · (repeat (first | exact trivial | (refine ⟨⟨(by first | rfl | (simp; done) | (simp; omega)), rfl⟩, ?_⟩)))
    · exact ⟨⟨rfl, rfl⟩, ⟨rfl, rfl⟩, trivial⟩
  have hge : k = 20 := by simp at h; omega
  clear h
  subst hge
  have q4 := altSum_le hHB 20
  generalize altSum HH 20 = S at *
  refine awp_exit (awp_seq (awp_block ?_))
  refine awp_loopR (fun m st => ∃ q : Nat, m = q ∧ q ≤ 65280 * 20 ∧ fold16 q = sumOf HH ∧ st = St.of [(1, .ref 1 0), (4, .p (.v (.string (strOfNums HA)))), (5, .p (.v (.string (strOfNums HB)))), (6, .p (.v (.int .i64 q)))] [(1, .box 44 [.p (.v (.int .u32 a)), .p (.v (.int .u32 b)), .p (.sl n 1 (bs xs))])]) S ?_ ?_
  · refine ⟨_, re_of id _ _ ?_ ?_ rfl, S, rfl, by omega, hSO, rfl⟩
    · (repeat (first | exact trivial | (refine ⟨⟨(by first | rfl | (simp; done) | (simp; omega)), rfl⟩, ?_⟩)))
    · exact ⟨⟨rfl, rfl⟩, trivial⟩
  rintro m st ⟨q, rfl, hq, hf, rfl⟩
  refine awp_seq (awp_seq ?_)
  refine awp_text (by kernel_rfl) ?_
  (refine r_pure (a_move (r := .p _)) rfl rfl ?_)
  (refine r_pure a_geq rfl rfl ?_)
  refine arun_nil ?_
  refine thn_n ?_
  refine awp_cond _ rfl (fun h => ?_) (fun h => ?_)
  · have hgt : 65536 ≤ m := by simp at h; omega
    clear h
    refine awp_skip (awp_block ?_)
    refine awp_text (by kernel_rfl) ?_
    (refine r_pure (a_move (r := .p _)) rfl rfl ?_)
    (refine r_pure (a_rem (by omega) (by first | exact IntWalk.rem_in _ _ (by omega) | rfl)) rfl rfl ?_)
    (refine r_pure (a_move (r := .p _)) rfl rfl ?_)
    (refine r_pure (a_quo (by omega) (by first | exact IntWalk.i64_quo _ _ (by omega) | rfl)) rfl rfl ?_)
    (refine r_pure (a_add (by first | exact IntWalk.i64_in _ (by omega) | rfl)) rfl rfl ?_)
    (refine r_pure (a_assign (r := .p _)) rfl rfl ?_)
    refine arun_nil ?_
    refine inb_n (thn_n ?_)
    refine ⟨m / 65536 + m % 65536, by omega, _, re_of id _ _ ?_ ?_ rfl, m / 65536 + m % 65536, rfl, by omega, by rw [fold16_step (by omega)]; exact hf, rfl⟩
    · refine ⟨⟨rfl, rfl⟩, ⟨rfl, rfl⟩, ⟨rfl, rfl⟩, ⟨?_, rfl⟩, trivial⟩
      show AV.p (.v (.int .i64 ((m : Int) % 65536 + (m : Int) / 65536))) = AV.p (.v (.int .i64 ((m / 65536 + m % 65536 : Nat) : Int)))
      congr 3; omega
    · exact ⟨⟨rfl, rfl⟩, trivial⟩
  have hle2 : m < 65536 := by simp at h; omega
  clear h
  rw [fold16_end hle2] at hf
  rw [← hf] at hPBB ⊢
  have g4 := bigN_s 2 (65535 - m) (by omega) (by omega)
  have f1 : strOfNums HA ++ strOfNums (beN 2 (65535 - m)) = strOfNums (HA ++ beN 2 (65535 - m)) := str_app _ _
  have f2 : strOfNums (HA ++ beN 2 (65535 - m)) ++ strOfNums HB = strOfNums (HA ++ beN 2 (65535 - m) ++ HB) := str_app _ _
  have f3 : strOfNums (HA ++ beN 2 (65535 - m) ++ HB) ++ strOfNums xs = strOfNums (HA ++ beN 2 (65535 - m) ++ HB ++ xs) := str_app _ _
  have x1 : (strOfNums (beN 2 (65535 - m))).size = 2 := by rw [nums_size, beN_len]
  have x2 : (strOfNums (HA ++ beN 2 (65535 - m))).size = 12 := by rw [nums_size, List.length_append, beN_len, ← nums_size, z5]
  have x3 : (strOfNums (HA ++ beN 2 (65535 - m) ++ HB)).size = 20 := by rw [nums_size, List.length_append, ← nums_size, ← nums_size, x2, z6]
  have x4 : (strOfNums (HA ++ beN 2 (65535 - m) ++ HB ++ xs)).size = 20 + n := by rw [nums_size, List.length_append, ← nums_size, x3, hx]
  have x5 : (strOfNums xs).size = n := by rw [nums_size, hx]
  have x6 := sb_nums hPBB
  have x7 : (65535 : Int) - m = ((65535 - m : Nat) : Int) := by omega
  generalize HA ++ beN 2 (65535 - m) ++ HB ++ xs = R4 at *
  generalize HA ++ beN 2 (65535 - m) ++ HB = R3 at *
  generalize HA ++ beN 2 (65535 - m) = R2 at *
  generalize beN 2 (65535 - m) = R1 at *
  rw [← x7] at g4
  refine awp_exit (awp_seq ?_)
  refine awp_draw 12 (by kernel_rfl) ?_
  (refine r_pure (a_move (r := .p _)) rfl rfl ?_)
  (refine r_pure (a_move (r := .p _)) rfl rfl ?_)
  (refine r_pure (a_sub (by first | exact IntWalk.i64_in _ (by omega) | rfl)) rfl rfl ?_)
  (refine r_callV (fun n => 66 + 1000 * n) (g4) rfl rfl Try.func109 rfl rfl (by first | rfl | simp [AV.noSl, AV.noSlL, AObj.noSl, PV.isV, bs_noSl]) (by first | rfl | simp [AV.noSl, AV.noSlL, AObj.noSl, PV.isV, bs_noSl]) rfl rfl rfl (by first | exact trivial | exact ⟨rfl, trivial⟩ | exact ⟨rfl, rfl, trivial⟩) rfl rfl rfl ?_)
  (refine r_run (a_b2s Try.underlying42 Try.underlying5 Try.underlying9 (src_row) rfl rfl) rfl rfl ⟨rfl, trivial⟩ ?_)
  (refine r_pure (a_cat (by omega) f1) rfl rfl ?_)
  (refine r_pure (a_move (r := .p _)) rfl rfl ?_)
  (refine r_pure (a_cat (by omega) f2) rfl rfl ?_)
  (refine r_pure (b_fieldAddr fi44_2 rfl) rfl rfl ?_)
  (refine r_run (a_load1 Try.underlying42 rfl (by first | rfl | assumption)) rfl rfl ⟨rfl, trivial⟩ ?_)
  (refine r_run (a_b2s Try.underlying42 Try.underlying5 Try.underlying9 (src_sl) rfl rfl) rfl rfl trivial ?_)
  (refine r_pure (a_cat (by omega) f3) rfl rfl ?_)
  (refine r_run (a_s2b 75 Try.underlying9 Try.underlying42 Try.underlying5 (by first | omega | (simp only [maxLen]; omega)) x4 x6) rfl rfl ⟨rfl, trivial⟩ ?_)
  (refine r_pure (a_assign (r := .row _)) rfl rfl ?_)
  (refine r_pure (a_assign (r := .p _)) rfl rfl ?_)
  refine arun_nil ⟨by kernel_rfl, ?_⟩
  refine awp_ret ?_
  refine ⟨(by first | exact .inl rfl | exact .inr rfl), _, (fun _ => 75), (.tmp _ _ _ _ rfl (.tmp _ _ _ _ rfl .nil)), ?_, rfl, ?_, rfl⟩
  · exact rfl
  · exact ⟨⟨rfl, rfl⟩, trivial⟩

def adk (xs : List Int) (o : Nat) : Nat → Nat
  | 0 => 0
  | k + 1 => adk xs o k * 256 + bN xs (o + k)
theorem adk_lt {xs : List Int} (h : isB xs) (o k : Nat) : adk xs o k < 256 ^ k := by
  induction k with
  | zero => simp [adk]
  | succ k ih => rw [adk, Nat.pow_succ]; have := bN_lt h (o + k); omega
theorem adk_lt3 {xs : List Int} (h : isB xs) (o k : Nat) (hk : k ≤ 3) : adk xs o k < 16777216 :=
  Nat.lt_of_lt_of_le (adk_lt h o k) (Nat.pow_le_pow_right (n := 256) (by omega) hk)
theorem adk4 (xs : List Int) (o : Nat) : adk xs o 4 = adr xs o := by
  simp only [adk, adr, Nat.add_zero]; omega

set_option maxHeartbeats 2000000 in
theorem refOf_s (n : Nat) (xs : List Int) (hx : xs.length = n) (hB : isB xs) (hn : n ≤ 140737488355328) : Fn Try.prog 31 [.p (.sl n 1 (bs xs))] (pkV (pkE n xs) n xs) [] := by
  refine fn_intro Try.func31 rfl (Nat.le_of_ble_eq_true rfl) fun w0 A => ?_
  refine awp_seq ?_
  refine awp_text (by kernel_rfl) ?_
  (refine r_run (a_alloc 2 zr44 rfl) rfl rfl ⟨rfl, trivial⟩ ?_)
  (refine r_pure (a_assign (r := .p _)) rfl rfl ?_)
  refine arun_nil ?_
  refine awp_seq (awp_seq ?_)
  refine awp_text (by kernel_rfl) ?_
  (refine r_pure (a_move (r := .p _)) rfl rfl ?_)
  (refine r_pure (a_lenS Try.underlying42) rfl rfl ?_)
  (refine r_pure a_lss rfl rfl ?_)
  refine arun_nil ?_
  refine thn_n ?_
  refine awp_cond _ rfl (fun h => ?_) (fun h => ?_)
  · have h1 : n < 20 := by simp at h; omega
    have e : pkE n xs = 8 := by unfold pkE; rw [if_pos h1]
    rw [e, pkV_bad (by omega)]
    refine awp_seq ?_
    refine awp_text (by kernel_rfl) ?_
    (refine r_pure (b_build pl44 zr44 rfl rfl) rfl rfl ?_)
    (refine r_run (a_storeAll (Y := .agg _) sz44 rfl (by first | exact Nat.eq_of_beq_eq_true rfl | (simp only [AV.cells, List.length_map]; first | assumption | omega)) (Nat.eq_of_beq_eq_true rfl)) rfl rfl ⟨rfl, trivial⟩ ?_)
    (refine r_pure (a_assign (r := .p _)) rfl rfl ?_)
    refine arun_nil ?_
    refine awp_ret (thn_r ?_)
    refine ⟨(by first | exact .inl rfl | exact .inr rfl), _, (fun o => o), (.cellN _ _ _ _ _ _ _ _ _ rfl rfl Try.underlying44 rfl sz44 (by first | assumption | kernel_rfl) (.tmp _ _ _ _ rfl .nil)), ?_, rfl, ?_, rfl⟩
    · exact rfl
    · exact trivial
  have h20 : ¬ n < 20 := by simp at h; omega
  clear h
  refine awp_skip (awp_seq (awp_seq ?_))
  refine awp_text (by kernel_rfl) ?_
  (refine r_pure (a_move (r := .p _)) rfl rfl ?_)
  (refine r_pure (a_lenS Try.underlying42) rfl rfl ?_)
  (refine r_pure a_gtr rfl rfl ?_)
  refine arun_nil ?_
  refine thn_n ?_
  refine awp_cond _ rfl (fun h => ?_) (fun h => ?_)
  · have h1 : 220 < n := by simp at h; omega
    have e : pkE n xs = 1 := by unfold pkE; rw [if_neg h20, if_pos h1]
    rw [e, pkV_bad (by omega)]
    refine awp_seq ?_
    refine awp_text (by kernel_rfl) ?_
    (refine r_pure (b_build pl44 zr44 rfl rfl) rfl rfl ?_)
    (refine r_run (a_storeAll (Y := .agg _) sz44 rfl (by first | exact Nat.eq_of_beq_eq_true rfl | (simp only [AV.cells, List.length_map]; first | assumption | omega)) (Nat.eq_of_beq_eq_true rfl)) rfl rfl ⟨rfl, trivial⟩ ?_)
    (refine r_pure (a_assign (r := .p _)) rfl rfl ?_)
    refine arun_nil ?_
    refine awp_ret (thn_r ?_)
    refine ⟨(by first | exact .inl rfl | exact .inr rfl), _, (fun o => o), (.cellN _ _ _ _ _ _ _ _ _ rfl rfl Try.underlying44 rfl sz44 (by first | assumption | kernel_rfl) (.tmp _ _ _ _ rfl .nil)), ?_, rfl, ?_, rfl⟩
    · exact rfl
    · exact trivial
  have h220 : ¬ 220 < n := by simp at h; omega
  clear h
  have hE : pkE n xs = if packB (adr xs 12) (adr xs 16) (n - 20) (xs.drop 20) = xs then 0 else 3 := by unfold pkE; rw [if_neg h20, if_neg h220]
  have hl : (xs.drop 20).length = n - 20 := by rw [List.length_drop, hx]
  have hBd := isB_drop hB 20
  have b1 := adr_lt hB 12
  have b2 := adr_lt hB 16
  have hEn := refPack_s (adr xs 12) (adr xs 16) (n - 20) (xs.drop 20) b1 b2 hl hBd (by omega)
  have hPB := packB_B (adr xs 12) (adr xs 16) (n - 20) (xs.drop 20) hBd
  have hdec : decide (strOfNums (packB (adr xs 12) (adr xs 16) (n - 20) (xs.drop 20)) = strOfNums xs) = decide (packB (adr xs 12) (adr xs 16) (n - 20) (xs.drop 20) = xs) :=
    decide_eq_decide.2 ⟨fun h => nums_inj hPB hB h, fun h => by rw [h]⟩
  have s3 := bs_sub (a := 20) hx rfl
  have a1 := adk4 xs 12
  have a2 := adk4 xs 16
  rw [hE]
  unfold pkV
  generalize packB (adr xs 12) (adr xs 16) (n - 20) (xs.drop 20) = PB at *
  generalize adr xs 12 = A1 at *
  generalize adr xs 16 = A2 at *
  unfold pkt at *
  generalize xs.drop 20 = D at *
  refine awp_skip (awp_seq ?_)
  refine awp_text (by kernel_rfl) ?_
  (refine r_pure (a_move (r := .p _)) rfl rfl ?_)
  (refine r_pure (a_sliceS (L := (some (_, _))) (H := none) Try.underlying42 sz5 ⟨by omega, rfl⟩ rfl (by omega) (by omega) rfl s3) rfl rfl ?_)
  (refine r_run (a_appendNil 18 Try.underlying42 eo5 (src_sl) (by simp only [maxLen]; omega) (by omega)) rfl rfl ⟨rfl, trivial⟩ ?_)
  (refine r_pure (b_build pl44 zr44 rfl rfl) rfl rfl ?_)
  (refine r_run (a_alloc 4 zr44 rfl) rfl rfl ⟨rfl, trivial⟩ ?_)
  (refine r_run (a_storeAll (Y := .agg _) sz44 rfl (by first | exact Nat.eq_of_beq_eq_true rfl | (simp only [AV.cells, List.length_map]; first | assumption | omega)) (Nat.eq_of_beq_eq_true rfl)) rfl rfl ⟨rfl, trivial⟩ ?_)
  refine arun_nil ?_
  refine awp_seq (awp_seq ?_)
  refine awp_text (by kernel_rfl) ?_
  (refine r_pure (a_assign (r := .p _)) rfl rfl ?_)
  refine arun_nil ?_
  refine awp_block ?_
  refine awp_loopR (fun m st => ∃ k : Nat, m + k = 4 ∧ st = St.of [(0, .p (.sl n 1 (bs xs))), (2, .ref 2 0), (4, .ref 4 0), (5, .p (.v (.int .i64 k)))] [(2, .box 44 [.p (.v (.int .u32 0)), .p (.v (.int .u32 0)), .p (.v (.slice none 0 0))]), (4, .box 44 [.p (.v (.int .u32 (adk xs 12 k : Nat))), .p (.v (.int .u32 (adk xs 16 k : Nat))), .row 18]), (18, .row 5 1 (n - 20) (bs D))]) 4 ?_ ?_
  · refine ⟨_, re_of id _ _ ?_ ?_ rfl, 0, by omega, rfl⟩
    · (repeat (first | exact trivial | (refine ⟨⟨(by first | rfl | (simp; done) | (simp; omega)), rfl⟩, ?_⟩)))
    · exact ⟨⟨rfl, rfl⟩, ⟨rfl, rfl⟩, ⟨rfl, rfl⟩, trivial⟩
  rintro m st ⟨k, hk, rfl⟩
  refine awp_seq (awp_seq ?_)
  refine awp_text (by kernel_rfl) ?_
  (refine r_pure (a_move (r := .p _)) rfl rfl ?_)
  (refine r_pure a_lss rfl rfl ?_)
  refine arun_nil ?_
  refine thn_n ?_
  refine awp_cond _ rfl (fun h => ?_) (fun h => ?_)
  · have hlt : k < 4 := by simp at h; omega
    clear h
    have g1 := bN_at hB (i := 12 + k) (by omega)
    have g2 := bN_at hB (i := 16 + k) (by omega)
    have c1 := bN_lt hB (12 + k)
    have c2 := bN_lt hB (16 + k)
    have d1 := adk_lt3 hB 12 k (by omega)
    have d2 := adk_lt3 hB 16 k (by omega)
    have e1 : adk xs 12 (k + 1) = adk xs 12 k * 256 + bN xs (12 + k) := rfl
    have e2 : adk xs 16 (k + 1) = adk xs 16 k * 256 + bN xs (16 + k) := rfl
    obtain ⟨U1, hU1⟩ : ∃ U, U = adk xs 12 (k + 1) := ⟨_, rfl⟩
    obtain ⟨U2, hU2⟩ : ∃ U, U = adk xs 16 (k + 1) := ⟨_, rfl⟩
    rw [← hU1] at e1
    rw [← hU2] at e2
    generalize adk xs 12 k = V1 at *
    generalize adk xs 16 k = V2 at *
    generalize bN xs (12 + k) = y1 at *
    generalize bN xs (16 + k) = y2 at *
    have w1 : IntKind.u32.wrap ((V1 : Int) * 256) = ((V1 * 256 : Nat) : Int) := by rw [IntWalk.u32_in _ (by omega)]; omega
    have w2 : IntKind.u32.wrap ((V2 : Int) * 256) = ((V2 * 256 : Nat) : Int) := by rw [IntWalk.u32_in _ (by omega)]; omega
    have w3 : IntKind.u32.wrap (((V1 * 256 : Nat) : Int) + (y1 : Int)) = ((U1 : Nat) : Int) := by rw [IntWalk.u32_in _ (by omega)]; omega
    have w4 : IntKind.u32.wrap (((V2 * 256 : Nat) : Int) + (y2 : Int)) = ((U2 : Nat) : Int) := by rw [IntWalk.u32_in _ (by omega)]; omega
    refine awp_skip (awp_seq (awp_block (awp_seq ?_)))
    refine awp_draw 8 (by kernel_rfl) ?_
    (refine r_pure (b_fieldAddr fi44_0 rfl) rfl rfl ?_)
    (refine r_run (a_load1 Try.underlying26 rfl (by first | rfl | assumption)) rfl rfl ⟨rfl, trivial⟩ ?_)
    (refine r_pure (a_mul w1) rfl rfl ?_)
    (refine r_pure (a_move (r := .p _)) rfl rfl ?_)
    (refine r_pure (a_move (r := .p _)) rfl rfl ?_)
    (refine r_pure (a_add (by first | exact IntWalk.i64_in _ (by omega) | rfl)) rfl rfl ?_)
    (refine r_pure (a_indexAddrS Try.underlying42 sz5 (by omega) (by omega) (by rw [show (12 : Int) + (k : Int) = ((12 + k : Nat) : Int) by omega, Int.toNat_natCast, Nat.mul_one])) rfl rfl ?_)
    (refine r_pure (a_load1p Try.underlying5 rfl (by rw [List.getElem?_drop]; exact g1)) rfl rfl ?_)
    (refine r_pure (a_conv Try.underlying5 Try.underlying26 (by first | exact IntWalk.u32_in _ (by omega) | rfl)) rfl rfl ?_)
    (refine r_pure (a_add w3) rfl rfl ?_)
    (refine r_pure (b_fieldAddr fi44_0 rfl) rfl rfl ?_)
    (refine r_run (a_store (Y := .p _) sz26 rfl (by first | exact Nat.eq_of_beq_eq_true rfl | (simp only [AV.cells, List.length_map]; first | assumption | omega)) (by first | exact Nat.le_of_ble_eq_true rfl | omega | (simp only [AV.cells, List.length_map]; omega)) (by first | (simp only [setR, AV.cells, List.take_succ_cons, List.take_zero, List.drop_succ_cons, List.drop_zero, List.drop_nil, List.take_nil, List.nil_append, List.cons_append, List.append_nil, List.length_cons, List.length_nil, Nat.reduceAdd, Nat.zero_add, Nat.add_zero]; rfl) | rfl)) rfl rfl ⟨rfl, trivial⟩ ?_)
    refine arun_nil ⟨by kernel_rfl, ?_⟩
    refine thn_n ?_
    refine awp_draw 8 (by kernel_rfl) ?_
    (refine r_pure (b_fieldAddr fi44_1 rfl) rfl rfl ?_)
    (refine r_run (a_load1 Try.underlying26 rfl (by first | rfl | assumption)) rfl rfl ⟨rfl, trivial⟩ ?_)
    (refine r_pure (a_mul w2) rfl rfl ?_)
    (refine r_pure (a_move (r := .p _)) rfl rfl ?_)
    (refine r_pure (a_move (r := .p _)) rfl rfl ?_)
    (refine r_pure (a_add (by first | exact IntWalk.i64_in _ (by omega) | rfl)) rfl rfl ?_)
    (refine r_pure (a_indexAddrS Try.underlying42 sz5 (by omega) (by omega) (by rw [show (16 : Int) + (k : Int) = ((16 + k : Nat) : Int) by omega, Int.toNat_natCast, Nat.mul_one])) rfl rfl ?_)
    (refine r_pure (a_load1p Try.underlying5 rfl (by rw [List.getElem?_drop]; exact g2)) rfl rfl ?_)
    (refine r_pure (a_conv Try.underlying5 Try.underlying26 (by first | exact IntWalk.u32_in _ (by omega) | rfl)) rfl rfl ?_)
    (refine r_pure (a_add w4) rfl rfl ?_)
    (refine r_pure (b_fieldAddr fi44_1 rfl) rfl rfl ?_)
    (refine r_run (a_store (Y := .p _) sz26 rfl (by first | exact Nat.eq_of_beq_eq_true rfl | (simp only [AV.cells, List.length_map]; first | assumption | omega)) (by first | exact Nat.le_of_ble_eq_true rfl | omega | (simp only [AV.cells, List.length_map]; omega)) (by first | (simp only [setR, AV.cells, List.take_succ_cons, List.take_zero, List.drop_succ_cons, List.drop_zero, List.drop_nil, List.take_nil, List.nil_append, List.cons_append, List.append_nil, List.length_cons, List.length_nil, Nat.reduceAdd, Nat.zero_add, Nat.add_zero]; rfl) | rfl)) rfl rfl ⟨rfl, trivial⟩ ?_)
    refine arun_nil ⟨by kernel_rfl, ?_⟩
    refine inb_n (thn_n ?_)
    refine awp_text (by kernel_rfl) ?_
    (refine r_pure (a_move (r := .p _)) rfl rfl ?_)
    (refine r_pure (a_add (by first | exact IntWalk.i64_in _ (by omega) | rfl)) rfl rfl ?_)
    (refine r_pure (a_assign (r := .p _)) rfl rfl ?_)
    refine arun_nil ?_
    refine thn_n ?_
    refine ⟨m - 1, by omega, _, re_of id _ _ ?_ ?_ rfl, k + 1, by omega, rfl⟩
    · (repeat (first | exact trivial | (refine ⟨⟨(by first | rfl | (simp; done) | (simp; omega)), rfl⟩, ?_⟩)))
    · rw [← hU1, ← hU2]
      exact ⟨⟨rfl, rfl⟩, ⟨rfl, rfl⟩, ⟨rfl, rfl⟩, trivial⟩
  have hge : k = 4 := by simp at h; omega
  clear h
  subst hge
  rw [a1, a2]
  refine awp_exit (awp_seq (awp_seq ?_))
  refine awp_text (by kernel_rfl) ?_
  (refine r_run (a_loadN Try.underlying44 rfl sz44 (by first | exact Nat.le_of_ble_eq_true rfl | omega | (simp only [AV.cells, List.length_map]; omega)) (by first | exact take_all (by first | assumption | exact Nat.eq_of_beq_eq_true rfl | (simp only [AV.cells, List.length_map]; first | assumption | omega)) | (simp only [List.take_succ_cons, List.take_zero, List.drop_succ_cons, List.drop_zero]; rfl) | rfl)) rfl rfl ⟨rfl, trivial⟩ ?_)
  (refine r_callV (fun n => 48 + 1000 * n) (hEn) rfl rfl Try.func82 rfl rfl (by first | rfl | simp [AV.noSl, AV.noSlL, AObj.noSl, PV.isV, bs_noSl]) (by first | rfl | simp [AV.noSl, AV.noSlL, AObj.noSl, PV.isV, bs_noSl]) rfl rfl rfl (by first | exact trivial | exact ⟨rfl, trivial⟩ | exact ⟨rfl, rfl, trivial⟩) rfl rfl rfl ?_)
  (refine r_pure (a_move (r := .tup _)) rfl rfl ?_)
  (refine r_pure (a_extract rfl) rfl rfl ?_)
  (refine r_pure (a_extract rfl) rfl rfl ?_)
  (refine r_pure (a_assign (r := .row _)) rfl rfl ?_)
  (refine r_pure (a_assign (r := .p _)) rfl rfl ?_)
  refine arun_nil ?_
  refine awp_seq ?_
  refine awp_text (by kernel_rfl) ?_
  (refine r_pure (a_move (r := .row _)) rfl rfl ?_)
  (refine r_run (a_b2s Try.underlying42 Try.underlying5 Try.underlying9 (src_row) rfl rfl) rfl rfl ⟨rfl, trivial⟩ ?_)
  (refine r_pure (a_move (r := .p _)) rfl rfl ?_)
  (refine r_run (a_b2s Try.underlying42 Try.underlying5 Try.underlying9 (src_sl) rfl rfl) rfl rfl trivial ?_)
  (refine r_pure a_sneq rfl rfl ?_)
  refine arun_nil ?_
  rw [hdec]
  refine thn_n ?_
  refine awp_cond _ rfl (fun h => ?_) (fun h => ?_)
  · have h1 : ¬ PB = xs := by simpa using h
    rw [if_neg h1]
    refine awp_seq ?_
    refine awp_text (by kernel_rfl) ?_
    (refine r_pure (b_build pl44 zr44 rfl rfl) rfl rfl ?_)
    (refine r_run (a_storeAll (Y := .agg _) sz44 rfl (by first | exact Nat.eq_of_beq_eq_true rfl | (simp only [AV.cells, List.length_map]; first | assumption | omega)) (Nat.eq_of_beq_eq_true rfl)) rfl rfl ⟨rfl, trivial⟩ ?_)
    (refine r_pure (a_assign (r := .p _)) rfl rfl ?_)
    refine arun_nil ?_
    refine awp_ret (thn_r ?_)
    refine ⟨(by first | exact .inl rfl | exact .inr rfl), _, (fun o => o), (.cellN _ _ _ _ _ _ _ _ _ rfl rfl Try.underlying44 rfl sz44 (by first | assumption | kernel_rfl) (.tmp _ _ _ _ rfl .nil)), ?_, rfl, ?_, rfl⟩
    · exact rfl
    · exact trivial
  · have h1 : PB = xs := by simpa using h
    rw [if_pos h1]
    refine awp_skip (awp_seq ?_)
    refine awp_text (by kernel_rfl) ?_
    (refine r_run (a_loadN Try.underlying44 rfl sz44 (by first | exact Nat.le_of_ble_eq_true rfl | omega | (simp only [AV.cells, List.length_map]; omega)) (by first | exact take_all (by first | assumption | exact Nat.eq_of_beq_eq_true rfl | (simp only [AV.cells, List.length_map]; first | assumption | omega)) | (simp only [List.take_succ_cons, List.take_zero, List.drop_succ_cons, List.drop_zero]; rfl) | rfl)) rfl rfl ⟨rfl, trivial⟩ ?_)
    (refine r_run (a_storeAll (Y := .agg _) sz44 rfl (by first | exact Nat.eq_of_beq_eq_true rfl | (simp only [AV.cells, List.length_map]; first | assumption | omega)) (Nat.eq_of_beq_eq_true rfl)) rfl rfl ⟨rfl, trivial⟩ ?_)
    (refine r_pure (a_assign (r := .p _)) rfl rfl ?_)
    refine arun_nil ?_
    refine awp_ret ?_
    refine ⟨(by first | exact .inl rfl | exact .inr rfl), _, (fun o => o), (.cellN _ _ _ _ _ _ _ _ _ rfl rfl Try.underlying44 rfl sz44 (by first | assumption | kernel_rfl) (.tmp _ _ _ _ rfl .nil)), ?_, rfl, ?_, rfl⟩
    · exact rfl
    · exact trivial

end Go.Proofs.Ytfnipohlkifkhaa
