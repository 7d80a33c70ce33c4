/- package packet over data: Check, four, address, sum, Encode, Decode. -/
import Derived.Test.YtfnipohlkifkhaaCl
namespace Go.Proofs.Ytfnipohlkifkhaa
open Go.RowKit Go.Sort
set_option linter.unusedVariables false
set_option linter.unusedSimpArgs false
set_option maxRecDepth 100000

/-! sums -/
/-- fold what goes over 16 bits -/
def fold16 (n : Nat) : Nat := if n < 65536 then n else fold16 (n / 65536 + n % 65536)
termination_by n
decreasing_by omega
theorem fold16_lt (n : Nat) : fold16 n < 65536 := by
  induction n using Nat.strongRecOn with
  | ind n ih =>
    rw [fold16]
    split
    · assumption
    · exact ih _ (by omega)
theorem fold16_step {n : Nat} (h : 65536 ≤ n) : fold16 (n / 65536 + n % 65536) = fold16 n := by
  conv => rhs; rw [fold16, if_neg (by omega)]
theorem fold16_end {n : Nat} (h : n < 65536) : fold16 n = n := by rw [fold16, if_pos h]
def pairSum (xs : List Int) (k : Nat) : Nat := ((List.range k).map fun j => 256 * bN xs (2 * j) + bN xs (2 * j + 1)).sum
theorem pairSum_succ (xs : List Int) (k : Nat) : pairSum xs (k + 1) = pairSum xs k + (256 * bN xs (2 * k) + bN xs (2 * k + 1)) := by simp [pairSum, List.range_succ]
theorem pairSum_le {xs : List Int} (h : isB xs) (k : Nat) : pairSum xs k ≤ 65535 * k := by
  induction k with
  | zero => simp [pairSum]
  | succ k ih => rw [pairSum_succ]; have := bN_lt h (2 * k); have := bN_lt h (2 * k + 1); omega
def sumOf (xs : List Int) : Nat := fold16 (pairSum xs (xs.length / 2))
theorem sumOf_lt (xs : List Int) : sumOf xs < 65536 := fold16_lt _

set_option maxHeartbeats 1000000 in
theorem psum_s (n : Nat) (xs : List Int) (hx : xs.length = n) (hB : isB xs) (hn : n ≤ 1000) : Fn Try.prog 108 [.p (.sl n 1 (bs xs))] (.p (.v (.int .u16 (65535 - sumOf xs : Nat)))) [] := by
  refine fn_intro Try.func108 rfl (Nat.le_of_ble_eq_true rfl) fun w0 A => ?_
  refine awp_seq ?_
  refine awp_text (by kernel_rfl) ?_
  (refine r_pure (a_assign (r := .p _)) rfl rfl ?_)
  refine arun_nil ?_
  refine awp_seq ?_
  refine awp_text (by kernel_rfl) ?_
  (refine r_pure (a_assign (r := .p _)) rfl rfl ?_)
  refine arun_nil ?_
  refine awp_seq (awp_seq ?_)
  refine awp_text (by kernel_rfl) ?_
  (refine r_pure (a_assign (r := .p _)) rfl rfl ?_)
  refine arun_nil ?_
  refine awp_block ?_
  refine awp_loopR (fun m st => ∃ k : Nat, m + k = n / 2 ∧ st = St.of [(0, .p (.sl n 1 (bs xs))), (3, .p (.v (.int .i64 (pairSum xs k : Nat)))), (4, .p (.v (.int .i64 (2 * k : Nat))))] []) (n / 2) ?_ ?_
  · refine ⟨_, re_of id _ _ ?_ ?_ rfl, 0, by omega, rfl⟩
    · (repeat (first | exact trivial | (refine ⟨⟨(by first | rfl | (simp; done) | (simp; omega)), rfl⟩, ?_⟩)))
    · trivial
  rintro m st ⟨k, hk, rfl⟩
  refine awp_seq (awp_seq ?_)
  refine awp_text (by kernel_rfl) ?_
  (refine r_pure (a_move (r := .p _)) rfl rfl ?_)
  (refine r_pure (a_add (by first | exact IntWalk.i64_in _ (by omega) | rfl)) rfl rfl ?_)
  (refine r_pure (a_move (r := .p _)) rfl rfl ?_)
  (refine r_pure (a_lenS Try.underlying42) rfl rfl ?_)
  (refine r_pure a_lss rfl rfl ?_)
  refine arun_nil ?_
  refine thn_n ?_
  refine awp_cond _ rfl (fun h => ?_) (fun h => ?_)
  · have hlt : 2 * k + 1 < n := by simp at h; omega
    clear h
    have g1 := bN_at hB (i := 2 * k) (by omega)
    have g2 := bN_at hB (i := 2 * k + 1) (by omega)
    have b1 := bN_lt hB (2 * k)
    have b2 := bN_lt hB (2 * k + 1)
    have hs := pairSum_succ xs k
    have hle := pairSum_le hB k
    generalize bN xs (2 * k) = y1 at *
    generalize bN xs (2 * k + 1) = y2 at *
    generalize pairSum xs k = S at *
    have e1 : IntKind.i64.wrap ((y1 : Int) * 2 ^ min (8 : Int).toNat IntKind.i64.bits) = ((y1 * 2 ^ 8 : Nat) : Int) := by
      rw [show (2 : Int) ^ min (8 : Int).toNat IntKind.i64.bits = 256 from rfl, IntWalk.i64_in _ (by omega)]; omega
    have e2 := i64_or y1 y2 8 (by omega) (by omega)
    refine awp_skip (awp_seq (awp_block ?_))
    refine awp_draw 8 (by kernel_rfl) ?_
    (refine r_pure (a_move (r := .p _)) rfl rfl ?_)
    (refine r_pure (a_move (r := .p _)) rfl rfl ?_)
    (refine r_pure (a_move (r := .p _)) rfl rfl ?_)
    (refine r_pure (a_indexAddrS Try.underlying42 sz5 (by omega) (by omega) (by rw [Int.toNat_natCast, Nat.mul_one])) rfl rfl ?_)
    (refine r_pure (a_load1p Try.underlying5 rfl (by rw [List.getElem?_drop]; exact g1)) rfl rfl ?_)
    (refine r_pure (a_conv Try.underlying5 Try.underlying3 (by first | exact IntWalk.i64_in _ (by omega) | rfl)) rfl rfl ?_)
    (refine r_pure (a_shl (by omega) e1) rfl rfl ?_)
    (refine r_pure (a_move (r := .p _)) rfl rfl ?_)
    (refine r_pure (a_move (r := .p _)) rfl rfl ?_)
    (refine r_pure (a_add (by first | exact IntWalk.i64_in _ (by omega) | rfl)) rfl rfl ?_)
    (refine r_pure (a_indexAddrS Try.underlying42 sz5 (by omega) (by omega) (by rw [show ((2 * k : Nat) : Int) + 1 = ((2 * k + 1 : Nat) : Int) by omega, Int.toNat_natCast, Nat.mul_one])) rfl rfl ?_)
    (refine r_pure (a_load1p Try.underlying5 rfl (by rw [List.getElem?_drop]; exact g2)) rfl rfl ?_)
    (refine r_pure (a_conv Try.underlying5 Try.underlying3 (by first | exact IntWalk.i64_in _ (by omega) | rfl)) rfl rfl ?_)
    (refine r_pure (a_bits (by simp) e2) rfl rfl ?_)
    (refine r_pure (a_add (by first | exact IntWalk.i64_in _ (by omega) | rfl)) rfl rfl ?_)
    (refine r_pure (a_assign (r := .p _)) rfl rfl ?_)
    refine arun_nil ⟨by kernel_rfl, ?_⟩
    refine inb_n (thn_n ?_)
    refine awp_text (by kernel_rfl) ?_
    (refine r_pure (a_move (r := .p _)) rfl rfl ?_)
    (refine r_pure (a_add (by first | exact IntWalk.i64_in _ (by omega) | rfl)) rfl rfl ?_)
    (refine r_pure (a_assign (r := .p _)) rfl rfl ?_)
    refine arun_nil ?_
    refine thn_n ?_
    refine ⟨m - 1, by omega, _, re_of0 _ ?_, k + 1, by omega, rfl⟩
    refine ⟨⟨rfl, rfl⟩, ⟨?_, rfl⟩, ⟨?_, rfl⟩, trivial⟩
    · show AV.p (.v (.int .i64 ((S : Int) + ((y1 * 2 ^ 8 + y2 : Nat) : Int)))) = AV.p (.v (.int .i64 ((pairSum xs (k + 1) : Nat) : Int)))
      rw [hs]; congr 3; try omega
    · show AV.p (.v (.int .i64 (((2 * k : Nat) : Int) + 2))) = AV.p (.v (.int .i64 ((2 * (k + 1) : Nat) : Int)))
      congr 3
  have hge : k = n / 2 := by simp at h; omega
  clear h
  have hle := pairSum_le hB k
  have hS : fold16 (pairSum xs k) = sumOf xs := by unfold sumOf; rw [hx, hge]
  generalize pairSum xs k = S at *
  refine awp_exit (awp_seq (awp_block ?_))
  refine awp_loopR (fun m st => ∃ q : Nat, m = q ∧ q ≤ 65535 * 500 ∧ fold16 q = sumOf xs ∧ st = St.of [(3, .p (.v (.int .i64 q)))] []) S ?_ ?_
  · refine ⟨_, re_of0 _ ?_, S, rfl, by omega, hS, rfl⟩
    (repeat (first | exact trivial | (refine ⟨⟨(by first | rfl | (simp; done) | (simp; omega)), rfl⟩, ?_⟩)))
  rintro m st ⟨q, rfl, hq, hf, rfl⟩
  refine awp_seq (awp_seq ?_)
  refine awp_text (by kernel_rfl) ?_
  (refine r_pure (a_move (r := .p _)) rfl rfl ?_)
  (refine r_pure a_gtr rfl rfl ?_)
  refine arun_nil ?_
  refine thn_n ?_
  refine awp_cond _ rfl (fun h => ?_) (fun h => ?_)
  · have hgt : 65535 < m := by simp at h; omega
    clear h
    have e3 := i64_and_65535 m (by omega)
    have e4 : (m : Int).fdiv (2 ^ min (16 : Int).toNat IntKind.i64.bits) = ((m / 65536 : Nat) : Int) := by
      rw [show (2 : Int) ^ min (16 : Int).toNat IntKind.i64.bits = 65536 from rfl, Int.fdiv_eq_ediv_of_nonneg _ (by omega)]; omega
    refine awp_skip (awp_block ?_)
    refine awp_text (by kernel_rfl) ?_
    (refine r_pure (a_move (r := .p _)) rfl rfl ?_)
    (refine r_pure (a_shr (by omega) e4) rfl rfl ?_)
    (refine r_pure (a_move (r := .p _)) rfl rfl ?_)
    (refine r_pure (a_bits (by simp) e3) rfl rfl ?_)
    (refine r_pure (a_add (by first | exact IntWalk.i64_in _ (by omega) | rfl)) rfl rfl ?_)
    (refine r_pure (a_assign (r := .p _)) rfl rfl ?_)
    refine arun_nil ?_
    refine inb_n (thn_n ?_)
    refine ⟨m / 65536 + m % 65536, by omega, _, re_of0 _ ?_, m / 65536 + m % 65536, rfl, by omega, by rw [fold16_step (by omega)]; exact hf, rfl⟩
    (repeat (first | exact trivial | (refine ⟨⟨(by first | rfl | (simp; done) | (simp; omega)), rfl⟩, ?_⟩)))
  · have hle2 : m < 65536 := by simp at h; omega
    clear h
    rw [fold16_end hle2] at hf
    rw [← hf]
    have e5 := u16_not m hle2
    refine awp_exit (awp_seq ?_)
    refine awp_text (by kernel_rfl) ?_
    (refine r_pure (a_move (r := .p _)) rfl rfl ?_)
    (refine r_pure (a_conv Try.underlying3 Try.underlying143 (by first | exact IntWalk.u16_in _ (by omega) | rfl)) rfl rfl ?_)
    (refine r_pure (a_inv e5) rfl rfl ?_)
    (refine r_pure (a_assign (r := .p _)) rfl rfl ?_)
    refine arun_nil ?_
    refine awp_ret ?_
    refine ⟨(by first | exact .inl rfl | exact .inr rfl), _, (fun o => o), (.tmp _ _ _ _ rfl .nil), ?_, rfl, ?_, rfl⟩
    · exact rfl
    · exact trivial

/-! addresses -/
def adr (xs : List Int) (o : Nat) : Nat := bN xs o * 2 ^ 24 + (bN xs (o + 1) * 2 ^ 16 + (bN xs (o + 2) * 2 ^ 8 + bN xs (o + 3)))
theorem bN_drop (xs : List Int) (a i : Nat) : bN (xs.drop a) i = bN xs (a + i) := by
  unfold bN
  rw [List.getD_eq_getElem?_getD, List.getD_eq_getElem?_getD, List.getElem?_drop]
theorem adr_drop (xs : List Int) (a : Nat) : adr (xs.drop a) 0 = adr xs a := by
  unfold adr
  rw [bN_drop, bN_drop, bN_drop, bN_drop]
  rfl
theorem isB_drop {xs : List Int} (h : isB xs) (a : Nat) : isB (xs.drop a) := fun x hx => h x (List.mem_of_mem_drop hx)
theorem adr_lt {xs : List Int} (h : isB xs) (o : Nat) : adr xs o < 4294967296 := by
  unfold adr
  have := bN_lt h o; have := bN_lt h (o + 1); have := bN_lt h (o + 2); have := bN_lt h (o + 3)
  omega
set_option maxHeartbeats 1000000 in
theorem address_s (n : Nat) (xs : List Int) (hx : xs.length = n) (hB : isB xs) (hn : 4 ≤ n) (hm : n ≤ 140737488355328) : Fn Try.prog 78 [.p (.sl n 1 (bs xs))] (.p (.v (.int .u32 (adr xs 0 : Nat)))) [] := by
  unfold adr
  have g0 := bN_at hB (i := 0) (by omega)
  have g1 := bN_at hB (i := 1) (by omega)
  have g2 := bN_at hB (i := 2) (by omega)
  have g3 := bN_at hB (i := 3) (by omega)
  have b0 := bN_lt hB 0
  have b1 := bN_lt hB 1
  have b2 := bN_lt hB 2
  have b3 := bN_lt hB 3
  simp only [Nat.zero_add]
  generalize bN xs 0 = y0 at *
  generalize bN xs 1 = y1 at *
  generalize bN xs 2 = y2 at *
  generalize bN xs 3 = y3 at *
  have s0 : IntKind.u32.wrap ((y0 : Int) * 2 ^ min (24 : Int).toNat IntKind.u32.bits) = ((y0 * 2 ^ 24 : Nat) : Int) := by
    rw [show (2 : Int) ^ min (24 : Int).toNat IntKind.u32.bits = 16777216 from rfl, IntWalk.u32_in _ (by omega)]; omega
  have s1 : IntKind.u32.wrap ((y1 : Int) * 2 ^ min (16 : Int).toNat IntKind.u32.bits) = ((y1 * 2 ^ 16 : Nat) : Int) := by
    rw [show (2 : Int) ^ min (16 : Int).toNat IntKind.u32.bits = 65536 from rfl, IntWalk.u32_in _ (by omega)]; omega
  have s2 : IntKind.u32.wrap ((y2 : Int) * 2 ^ min (8 : Int).toNat IntKind.u32.bits) = ((y2 * 2 ^ 8 : Nat) : Int) := by
    rw [show (2 : Int) ^ min (8 : Int).toNat IntKind.u32.bits = 256 from rfl, IntWalk.u32_in _ (by omega)]; omega
  have o1 := u32_or y0 (y1 * 2 ^ 16) 24 (by omega) (by omega)
  have o2 : bits .or .u32 ((y0 * 2 ^ 24 + y1 * 2 ^ 16 : Nat) : Int) ((y2 * 2 ^ 8 : Nat) : Int) = ((y0 * 2 ^ 24 + (y1 * 2 ^ 16 + y2 * 2 ^ 8) : Nat) : Int) := by
    have := u32_or (y0 * 2 ^ 8 + y1) (y2 * 2 ^ 8) 16 (by omega) (by omega)
    rw [show (y0 * 2 ^ 8 + y1) * 2 ^ 16 = y0 * 2 ^ 24 + y1 * 2 ^ 16 by omega] at this
    rw [this]; omega
  have o3 : bits .or .u32 ((y0 * 2 ^ 24 + (y1 * 2 ^ 16 + y2 * 2 ^ 8) : Nat) : Int) (y3 : Int) = ((y0 * 2 ^ 24 + (y1 * 2 ^ 16 + (y2 * 2 ^ 8 + y3)) : Nat) : Int) := by
    have := u32_or (y0 * 2 ^ 16 + y1 * 2 ^ 8 + y2) y3 8 (by omega) (by omega)
    rw [show (y0 * 2 ^ 16 + y1 * 2 ^ 8 + y2) * 2 ^ 8 = y0 * 2 ^ 24 + (y1 * 2 ^ 16 + y2 * 2 ^ 8) by omega] at this
    rw [this]; omega
  refine fn_intro Try.func78 rfl (Nat.le_of_ble_eq_true rfl) fun w0 A => ?_
  refine awp_seq ?_
  refine awp_text (by kernel_rfl) ?_
  (refine r_pure (a_assign (r := .p _)) rfl rfl ?_)
  refine arun_nil ?_
  refine awp_seq ?_
  refine awp_draw 14 (by kernel_rfl) ?_
  (refine r_pure (a_move (r := .p _)) rfl rfl ?_)
  (refine r_pure (a_indexAddrS Try.underlying42 sz5 (by omega) (by omega) rfl) rfl rfl ?_)
  (refine r_pure (a_load1p Try.underlying5 rfl (by rw [List.getElem?_drop]; exact g0)) rfl rfl ?_)
  (refine r_pure (a_conv Try.underlying5 Try.underlying26 (by first | exact IntWalk.u32_in _ (by omega) | rfl)) rfl rfl ?_)
  (refine r_pure (a_shl (by omega) s0) rfl rfl ?_)
  (refine r_pure (a_move (r := .p _)) rfl rfl ?_)
  (refine r_pure (a_indexAddrS Try.underlying42 sz5 (by omega) (by omega) rfl) rfl rfl ?_)
  (refine r_pure (a_load1p Try.underlying5 rfl (by rw [List.getElem?_drop]; exact g1)) rfl rfl ?_)
  (refine r_pure (a_conv Try.underlying5 Try.underlying26 (by first | exact IntWalk.u32_in _ (by omega) | rfl)) rfl rfl ?_)
  (refine r_pure (a_shl (by omega) s1) rfl rfl ?_)
  (refine r_pure (a_bits (by simp) o1) rfl rfl ?_)
  (refine r_pure (a_move (r := .p _)) rfl rfl ?_)
  (refine r_pure (a_indexAddrS Try.underlying42 sz5 (by omega) (by omega) rfl) rfl rfl ?_)
  (refine r_pure (a_load1p Try.underlying5 rfl (by rw [List.getElem?_drop]; exact g2)) rfl rfl ?_)
  (refine r_pure (a_conv Try.underlying5 Try.underlying26 (by first | exact IntWalk.u32_in _ (by omega) | rfl)) rfl rfl ?_)
  (refine r_pure (a_shl (by omega) s2) rfl rfl ?_)
  (refine r_pure (a_bits (by simp) o2) rfl rfl ?_)
  (refine r_pure (a_move (r := .p _)) rfl rfl ?_)
  (refine r_pure (a_indexAddrS Try.underlying42 sz5 (by omega) (by omega) rfl) rfl rfl ?_)
  (refine r_pure (a_load1p Try.underlying5 rfl (by rw [List.getElem?_drop]; exact g3)) rfl rfl ?_)
  (refine r_pure (a_conv Try.underlying5 Try.underlying26 (by first | exact IntWalk.u32_in _ (by omega) | rfl)) rfl rfl ?_)
  (refine r_pure (a_bits (by simp) o3) rfl rfl ?_)
  (refine r_pure (a_assign (r := .p _)) rfl rfl ?_)
  refine arun_nil ⟨by kernel_rfl, ?_⟩
  refine awp_ret ?_
  refine ⟨(by first | exact .inl rfl | exact .inr rfl), _, (fun o => o), (.tmp _ _ _ _ rfl .nil), ?_, rfl, ?_, rfl⟩
  · exact rfl
  · exact trivial

/-! packets as bytes -/
theorem beN4 (a : Nat) (h : a < 4294967296) : beN 4 a = [((a / 16777216 : Nat) : Int), ((a / 65536 % 256 : Nat) : Int), ((a / 256 % 256 : Nat) : Int), ((a % 256 : Nat) : Int)] := by
  simp [beN, List.range_succ]
  omega
theorem beN2 (a : Nat) (h : a < 65536) : beN 2 a = [((a / 256 : Nat) : Int), ((a % 256 : Nat) : Int)] := by
  simp [beN, List.range_succ]
  omega
def hdA (n : Nat) : List Int := [69, 0] ++ beN 2 (20 + n) ++ [0, 0, 0, 0, 64, 253]
def hdB (a b : Nat) : List Int := beN 4 a ++ beN 4 b
def head20 (a b n : Nat) : List Int := hdA n ++ [0, 0] ++ hdB a b
def packB (a b n : Nat) (xs : List Int) : List Int := hdA n ++ beN 2 (65535 - sumOf (head20 a b n)) ++ hdB a b ++ xs
theorem hdA_len (n : Nat) : (hdA n).length = 10 := by simp [hdA, beN_len]
theorem hdB_len (a b : Nat) : (hdB a b).length = 8 := by simp [hdB, beN_len]
theorem head20_len (a b n : Nat) : (head20 a b n).length = 20 := by simp [head20, hdA_len, hdB_len]
theorem isB_app' {xs ys : List Int} (h : isB xs) (k : isB ys) : isB (xs ++ ys) := fun x hx => by
  rcases List.mem_append.1 hx with h1 | h1
  · exact h x h1
  · exact k x h1
theorem hdA_B (n : Nat) : isB (hdA n) := by
  refine isB_app' (isB_app' ?_ (beN_B _ _)) ?_
  all_goals
    intro x hx
    simp at hx
    omega
theorem hdB_B (a b : Nat) : isB (hdB a b) := isB_app' (beN_B _ _) (beN_B _ _)
theorem head20_B (a b n : Nat) : isB (head20 a b n) := by
  refine isB_app' (isB_app' (hdA_B n) ?_) (hdB_B a b)
  intro x hx
  simp at hx
  omega
theorem packB_len (a b n : Nat) (xs : List Int) (hx : xs.length = n) : (packB a b n xs).length = 20 + n := by
  simp [packB, hdA_len, hdB_len, beN_len, hx]; omega
theorem packB_B (a b n : Nat) (xs : List Int) (hB : isB xs) : isB (packB a b n xs) := isB_app' (isB_app' (isB_app' (hdA_B n) (beN_B _ _)) (hdB_B a b)) hB

def pkt (a b n : Nat) (xs : List Int) : List AV := [.p (.v (.int .u32 a)), .p (.v (.int .u32 b)), .p (.sl n 1 (bs xs))]
theorem pcheck_s (a b n : Nat) (xs : List Int) (hn : n ≤ 140737488355328) : Fn Try.prog 106 [.agg (pkt a b n xs)] (.p (.v (.int .i64 (if 200 < n then 1 else 0)))) [] := by
  unfold pkt
  refine fn_intro Try.func106 rfl (Nat.le_of_ble_eq_true rfl) fun w0 A => ?_
  refine awp_seq ?_
  refine awp_text (by kernel_rfl) ?_
  (refine r_run (a_box (X := .agg _) 1 rfl) rfl rfl ⟨rfl, trivial⟩ ?_)
  (refine r_pure (a_assign (r := .p _)) rfl rfl ?_)
  refine arun_nil ?_
  refine awp_seq (awp_seq ?_)
  refine awp_text (by kernel_rfl) ?_
  (refine r_pure (b_fieldAddr fi44_2 rfl) rfl rfl ?_)
  (refine r_run (a_load1 Try.underlying42 rfl (by first | rfl | assumption)) rfl rfl ⟨rfl, trivial⟩ ?_)
  (refine r_pure (a_lenS Try.underlying42) rfl rfl ?_)
  (refine r_pure a_gtr rfl rfl ?_)
  refine arun_nil ?_
  refine thn_n ?_
  refine awp_cond _ rfl (fun h => ?_) (fun h => ?_)
  · have h1 : 200 < n := by simp at h; omega
    rw [if_pos h1]
    refine awp_seq ?_
    refine awp_text (by kernel_rfl) ?_
    (refine r_pure (a_assign (r := .p _)) rfl rfl ?_)
    refine arun_nil ?_
    refine awp_ret (thn_r ?_)
    refine ⟨(by first | exact .inl rfl | exact .inr rfl), _, (fun o => o), (.tmp _ _ _ _ rfl .nil), ?_, rfl, ?_, rfl⟩
    · exact rfl
    · exact trivial
  · have h1 : ¬ 200 < n := by simp at h; omega
    rw [if_neg h1]
    refine awp_skip (awp_seq ?_)
    refine awp_text (by kernel_rfl) ?_
    (refine r_pure (a_assign (r := .p _)) rfl rfl ?_)
    refine arun_nil ?_
    refine awp_ret ?_
    refine ⟨(by first | exact .inl rfl | exact .inr rfl), _, (fun o => o), (.tmp _ _ _ _ rfl .nil), ?_, rfl, ?_, rfl⟩
    · exact rfl
    · exact trivial
theorem four_s (a : Nat) (h : a < 4294967296) : Fn Try.prog 107 [.p (.v (.int .u32 a))] (.row 0) [(0, .row 5 1 4 (bs (beN 4 a)))] := by
  have e1 : (a : Int).fdiv (2 ^ min (24 : Int).toNat IntKind.u32.bits) = ((a / 16777216 : Nat) : Int) := by
    rw [show (2 : Int) ^ min (24 : Int).toNat IntKind.u32.bits = 16777216 from rfl, Int.fdiv_eq_ediv_of_nonneg _ (by omega)]; omega
  have e2 : (a : Int).fdiv (2 ^ min (16 : Int).toNat IntKind.u32.bits) = ((a / 65536 : Nat) : Int) := by
    rw [show (2 : Int) ^ min (16 : Int).toNat IntKind.u32.bits = 65536 from rfl, Int.fdiv_eq_ediv_of_nonneg _ (by omega)]; omega
  have e3 : (a : Int).fdiv (2 ^ min (8 : Int).toNat IntKind.u32.bits) = ((a / 256 : Nat) : Int) := by
    rw [show (2 : Int) ^ min (8 : Int).toNat IntKind.u32.bits = 256 from rfl, Int.fdiv_eq_ediv_of_nonneg _ (by omega)]; omega
  rw [beN4 a h]
  have w1 : IntKind.u8.wrap ((a / 16777216 : Nat) : Int) = ((a / 16777216 : Nat) : Int) := IntWalk.u8_in _ (by omega)
  have w2 : IntKind.u8.wrap ((a / 65536 : Nat) : Int) = ((a / 65536 % 256 : Nat) : Int) := by rw [IntKind.wrap_u8]; omega
  have w3 : IntKind.u8.wrap ((a / 256 : Nat) : Int) = ((a / 256 % 256 : Nat) : Int) := by rw [IntKind.wrap_u8]; omega
  have w4 : IntKind.u8.wrap (a : Int) = ((a % 256 : Nat) : Int) := by rw [IntKind.wrap_u8]; omega
  generalize a / 16777216 = z1 at *
  generalize a / 65536 % 256 = z2 at *
  generalize a / 256 % 256 = z3 at *
  generalize a % 256 = z4 at *
  refine fn_intro Try.func107 rfl (Nat.le_of_ble_eq_true rfl) fun w0 A => ?_
  refine awp_seq ?_
  refine awp_text (by kernel_rfl) ?_
  (refine r_pure (a_assign (r := .p _)) rfl rfl ?_)
  refine arun_nil ?_
  refine awp_seq ?_
  refine awp_text (by kernel_rfl) ?_
  (refine r_pure (a_move (r := .p _)) rfl rfl ?_)
  (refine r_pure (a_shr (by omega) e1) rfl rfl ?_)
  (refine r_pure (a_conv Try.underlying26 Try.underlying5 w1) rfl rfl ?_)
  (refine r_pure (a_move (r := .p _)) rfl rfl ?_)
  (refine r_pure (a_shr (by omega) e2) rfl rfl ?_)
  (refine r_pure (a_conv Try.underlying26 Try.underlying5 w2) rfl rfl ?_)
  (refine r_pure (a_move (r := .p _)) rfl rfl ?_)
  (refine r_pure (a_shr (by omega) e3) rfl rfl ?_)
  (refine r_pure (a_conv Try.underlying26 Try.underlying5 w3) rfl rfl ?_)
  (refine r_pure (a_move (r := .p _)) rfl rfl ?_)
  (refine r_pure (a_conv Try.underlying26 Try.underlying5 w4) rfl rfl ?_)
  (refine r_run (xs := [.p (.v (.int .u8 z1)), .p (.v (.int .u8 z2)), .p (.v (.int .u8 z3)), .p (.v (.int .u8 z4))]) (a_buildSlice (es := [.p (.v (.int .u8 z1)), .p (.v (.int .u8 z2)), .p (.v (.int .u8 z3)), .p (.v (.int .u8 z4))]) (cs := [.v (.int .u8 z1), .v (.int .u8 z2), .v (.int .u8 z3), .v (.int .u8 z4)]) 14 Try.underlying42 sz5 zc5 (Nat.le_of_ble_eq_true rfl) (Nat.le_of_ble_eq_true rfl) rfl (by kernel_rfl) (by kernel_rfl) (by kernel_rfl) (Nat.le_of_ble_eq_true rfl)) (by first | rfl | kernel_rfl) rfl ⟨rfl, trivial⟩ ?_)
  (refine r_pure (a_assign (r := .row _)) rfl rfl ?_)
  refine arun_nil ?_
  refine awp_ret ?_
  refine ⟨(by first | exact .inl rfl | exact .inr rfl), _, (fun _ => 14), (.tmp _ _ _ _ rfl .nil), ?_, rfl, ?_, rfl⟩
  · exact rfl
  · exact ⟨⟨rfl, rfl⟩, trivial⟩
end Go.Proofs.Ytfnipohlkifkhaa
