/- seal.number and the reference's big, over data. -/
import Derived.Test.YtmdkfhmmhiofbaaMc2
namespace Go.Proofs.Ytmdkfhmmhiofbaa
open Go.RowKit Go.Sort
set_option linter.unusedVariables false
set_option linter.unusedSimpArgs false
set_option maxRecDepth 100000

def bigK (n k : Nat) : List Int := List.replicate (8 - k) 0 ++ (be8 n).drop (8 - k)
theorem bigK_len (n k : Nat) (hk : k ≤ 8) : (bigK n k).length = 8 := by
  rw [bigK, List.length_append, List.length_replicate, List.length_drop, be8_len]; omega
theorem bigK_set (n k : Nat) (hk : k < 8) : (bigK n k).set (7 - k) ((n / 256 ^ k % 256 : Nat) : Int) = bigK n (k + 1) := by
  have e : 8 - k = (7 - k) + 1 := by omega
  have hl : 7 - k < (be8 n).length := by rw [be8_len]; omega
  have hb : (be8 n)[7 - k] = ((n / 256 ^ k % 256 : Nat) : Int) := by
    simp only [be8, List.getElem_map, List.getElem_range]
    rw [show 8 * (7 - (7 - k)) = 8 * k by omega, Nat.pow_mul]
  rw [bigK, bigK, show 8 - (k + 1) = 7 - k by omega, e, List.replicate_succ', List.append_assoc, List.set_append_right _ _ (by simp), List.length_replicate, Nat.sub_self, List.singleton_append, List.set_cons_zero, List.drop_eq_getElem_cons hl, hb]
theorem and255 (n : Nat) (hn : n < 9223372036854775808) : bits .and .i64 (n : Int) 255 = ((n % 256 : Nat) : Int) := by
  have h1 : (BitVec.ofInt 64 (n : Int)).toNat = n := by
    rw [BitVec.ofInt_natCast, BitVec.toNat_ofNat]; exact Nat.mod_eq_of_lt (by omega)
  have h2 : (BitVec.ofInt 64 (255 : Int)).toNat = 255 := by decide
  show IntKind.i64.wrap ((BitVec.ofInt 64 (n : Int) &&& BitVec.ofInt 64 255).toNat : Int) = _
  have h3 : n &&& 255 = n % 256 := Nat.and_two_pow_sub_one_eq_mod n 8
  rw [BitVec.toNat_and, h1, h2, h3, IntKind.wrap_i64]
  omega

set_option maxHeartbeats 1000000 in
theorem big_s (n : Nat) (hn : n < 9223372036854775808) : Fn Try.prog 41 [.p (.v (.int .i64 n)), .p (.v (.int .i64 8))] (.row 0) [(0, .row 5 1 8 (bs (be8 n)))] := by
  refine fn_intro Try.func41 rfl (Nat.le_of_ble_eq_true rfl) fun w0 A => ?_
  refine awp_seq ?_
  refine awp_text (by kernel_rfl) ?_
  (refine r_pure (a_assign (r := .p _)) rfl rfl ?_)
  refine arun_nil ?_
  refine awp_seq ?_
  refine awp_text (by kernel_rfl) ?_
  (refine r_pure (a_move (r := .p _)) rfl rfl ?_)
  (refine r_run (a_make1 8 Try.underlying22 eo5 zr5 rfl (by omega) (by omega) (by omega) (by simp only [maxLen]; omega) (show _ = 8 from rfl)) rfl rfl ⟨rfl, trivial⟩ ?_)
  (refine r_pure (a_assign (r := .row _)) rfl rfl ?_)
  refine arun_nil ?_
  refine awp_seq (awp_seq ?_)
  refine awp_text (by kernel_rfl) ?_
  (refine r_pure (a_move (r := .p _)) rfl rfl ?_)
  (refine r_pure (a_sub (by first | exact IntWalk.i64_in _ (by omega) | rfl)) rfl rfl ?_)
  (refine r_pure (a_assign (r := .p _)) rfl rfl ?_)
  refine arun_nil ?_
  refine awp_block ?_
  refine awp_loopR (fun m st => ∃ k : Nat, m + k = 8 ∧ st = St.of [(0, .p (.v (.int .i64 (n / 256 ^ k : Nat)))), (5, .row 5), (6, .p (.v (.int .i64 (7 - k))))] [(5, .row 5 1 8 (bs (bigK n k)))]) 8 ?_ ?_
  · refine ⟨_, re_of (fun _ => 8) _ _ ?_ ?_ rfl, 0, by omega, rfl⟩
    · rw [Nat.pow_zero, Nat.div_one]
      (repeat (first | exact trivial | (refine ⟨⟨(by first | rfl | (simp; done) | (simp; omega)), rfl⟩, ?_⟩)))
    · rw [show bigK n 0 = List.replicate 8 0 by simp [bigK, be8_len]]
      exact ⟨⟨rfl, rfl⟩, trivial⟩
  rintro m st ⟨k, hk, rfl⟩
  refine awp_seq (awp_seq ?_)
  refine awp_text (by kernel_rfl) ?_
  (refine r_pure (a_move (r := .p _)) rfl rfl ?_)
  (refine r_pure a_geq rfl rfl ?_)
  refine arun_nil ?_
  refine thn_n ?_
  refine awp_cond _ rfl (fun h => ?_) (fun h => ?_)
  · have hlt : k < 8 := by simp at h; omega
    clear h
    have hq : n / 256 ^ k < 9223372036854775808 := Nat.lt_of_le_of_lt (Nat.div_le_self _ _) hn
    have hset := bigK_set n k hlt
    have hnx : n / 256 ^ (k + 1) = n / 256 ^ k / 256 := by rw [Nat.pow_succ, Nat.div_div_eq_div_mul]
    have hlen := bigK_len n k (by omega)
    generalize n / 256 ^ k = q at hq hset hnx ⊢
    have g4 : setR (bs (bigK n k)) (7 - k) [.v (.int .u8 ((q % 256 : Nat) : Int))] = bs (bigK n (k + 1)) := by rw [bs_set (by omega), hset]
    have g5 : (bs (bigK n k)).length = 8 := by rw [bs_length]; exact hlen
    have g6 : (q : Int).fdiv (2 ^ min (8 : Int).toNat IntKind.i64.bits) = ((q / 256 : Nat) : Int) := by
      rw [show (2 : Int) ^ min (8 : Int).toNat IntKind.i64.bits = 256 from rfl, Int.fdiv_eq_ediv_of_nonneg _ (by omega)]; omega
    refine awp_skip (awp_seq (awp_block (awp_seq ?_)))
    refine awp_text (by kernel_rfl) ?_
    (refine r_pure (a_move (r := .row _)) rfl rfl ?_)
    (refine r_pure (a_move (r := .p _)) rfl rfl ?_)
    (refine r_pure (a_move (r := .p _)) rfl rfl ?_)
    (refine r_pure (a_bits (by simp) (and255 q hq)) rfl rfl ?_)
    (refine r_pure (a_conv Try.underlying3 Try.underlying5 (by first | exact IntWalk.u8_in _ (by omega) | rfl)) rfl rfl ?_)
    (refine r_run (a_indexAddrR Try.underlying22 sz5 (by omega) (by omega) (show _ = 7 - k by omega)) rfl rfl ⟨rfl, trivial⟩ ?_)
    (refine r_run (a_storeR (Y := .p _) sz5 rfl rfl (by first | rfl | omega) (by first | omega | (simp; done) | (simp; omega)) g4) rfl rfl ⟨rfl, trivial⟩ ?_)
    refine arun_nil ?_
    refine thn_n ?_
    refine awp_text (by kernel_rfl) ?_
    (refine r_pure (a_move (r := .p _)) rfl rfl ?_)
    (refine r_pure (a_shr (by omega) g6) rfl rfl ?_)
    (refine r_pure (a_assign (r := .p _)) rfl rfl ?_)
    refine arun_nil ?_
    refine inb_n (thn_n ?_)
    refine awp_text (by kernel_rfl) ?_
    (refine r_pure (a_move (r := .p _)) rfl rfl ?_)
    (refine r_pure (a_sub (by first | exact IntWalk.i64_in _ (by omega) | rfl)) rfl rfl ?_)
    (refine r_pure (a_assign (r := .p _)) rfl rfl ?_)
    refine arun_nil ?_
    refine thn_n ?_
    refine ⟨m - 1, by omega, _, re_of id _ _ ?_ ?_ rfl, k + 1, by omega, rfl⟩
    · refine ⟨⟨?_, rfl⟩, ⟨rfl, rfl⟩, ⟨?_, rfl⟩, trivial⟩
      · show AV.p (.v (.int .i64 ((q / 256 : Nat) : Int))) = AV.p (.v (.int .i64 ((n / 256 ^ (k + 1) : Nat) : Int)))
        rw [hnx]
      · show AV.p (.v (.int .i64 (7 - (k : Int) - 1))) = AV.p (.v (.int .i64 (7 - ((k + 1 : Nat) : Int))))
        congr 3; omega
    · exact ⟨⟨rfl, rfl⟩, trivial⟩
  have hge : k = 8 := by simp at h; omega
  clear h
  subst hge
  rw [show bigK n 8 = be8 n by simp [bigK]]
  refine awp_exit (awp_seq ?_)
  refine awp_text (by kernel_rfl) ?_
  (refine r_pure (a_move (r := .row _)) rfl rfl ?_)
  (refine r_pure (a_assign (r := .row _)) rfl rfl ?_)
  refine arun_nil ?_
  refine awp_ret ?_
  refine ⟨(by first | exact .inl rfl | exact .inr rfl), _, (fun _ => 5), (.tmp _ _ _ _ rfl .nil), ?_, rfl, ?_, rfl⟩
  · exact rfl
  · exact ⟨⟨rfl, rfl⟩, trivial⟩
end Go.Proofs.Ytmdkfhmmhiofbaa
