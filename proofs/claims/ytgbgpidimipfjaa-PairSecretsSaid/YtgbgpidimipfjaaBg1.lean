/- The reference's big, of any width, over data. -/
import Derived.Test.YtgbgpidimipfjaaSs1
namespace Go.Proofs.Ytgbgpidimipfjaa
open Go.RowKit Go.Sort
set_option linter.unusedVariables false
set_option linter.unusedSimpArgs false
set_option maxRecDepth 100000

/-- a number as so many bytes, the highest one first -/
def beN (m n : Nat) : List Int := (List.range m).map fun i => ((n / 2 ^ (8 * (m - 1 - i)) % 256 : Nat) : Int)
theorem beN_8 (n : Nat) : beN 8 n = be8 n := rfl
theorem beN_len (m n : Nat) : (beN m n).length = m := by simp [beN]
theorem beN_B (m n : Nat) : isB (beN m n) := by
  intro x hx
  simp only [beN, List.mem_map] at hx
  obtain ⟨i, _, rfl⟩ := hx
  omega
def bgK (m n k : Nat) : List Int := List.replicate (m - k) 0 ++ (beN m n).drop (m - k)
theorem bgK_len (m n k : Nat) (hk : k ≤ m) : (bgK m n k).length = m := by
  rw [bgK, List.length_append, List.length_replicate, List.length_drop, beN_len]; omega
theorem bgK_set (m n k : Nat) (hk : k < m) : (bgK m n k).set (m - 1 - k) ((n / 256 ^ k % 256 : Nat) : Int) = bgK m n (k + 1) := by
  have e : m - k = (m - 1 - k) + 1 := by omega
  have hl : m - 1 - k < (beN m n).length := by rw [beN_len]; omega
  have hb : (beN m n)[m - 1 - k] = ((n / 256 ^ k % 256 : Nat) : Int) := by
    simp only [beN, List.getElem_map, List.getElem_range]
    rw [show 8 * (m - 1 - (m - 1 - k)) = 8 * k by omega, Nat.pow_mul]
  rw [bgK, bgK, show m - (k + 1) = m - 1 - k by omega, e, List.replicate_succ', List.append_assoc, List.set_append_right _ _ (by simp), List.length_replicate, Nat.sub_self, List.singleton_append, List.set_cons_zero, List.drop_eq_getElem_cons hl, hb]

set_option maxHeartbeats 1000000 in
theorem bigN_s (w n : Nat) (hw : w ≤ 8) (hn : n < 9223372036854775808) : Fn Try.prog 69 [.p (.v (.int .i64 n)), .p (.v (.int .i64 w))] (.row 0) [(0, .row 5 1 w (bs (beN w n)))] := by
  refine fn_intro Try.func69 rfl (Nat.le_of_ble_eq_true rfl) fun w0 A => ?_
  refine awp_seq ?_
  refine awp_text (by kernel_rfl) ?_
  (refine r_pure (a_assign (r := .p _)) rfl rfl ?_)
  refine arun_nil ?_
  refine awp_seq ?_
  refine awp_text (by kernel_rfl) ?_
  (refine r_pure (a_move (r := .p _)) rfl rfl ?_)
  (refine r_run (a_make1 8 Try.underlying22 eo5 zr5 rfl (by omega) (by omega) (by omega) (by simp only [maxLen]; omega) (show _ = w by omega)) rfl rfl ⟨rfl, trivial⟩ ?_)
  (refine r_pure (a_assign (r := .row _)) rfl rfl ?_)
  refine arun_nil ?_
  refine awp_seq (awp_seq ?_)
  refine awp_text (by kernel_rfl) ?_
  (refine r_pure (a_move (r := .p _)) rfl rfl ?_)
  (refine r_pure (a_sub (by first | exact IntWalk.i64_in _ (by omega) | rfl)) rfl rfl ?_)
  (refine r_pure (a_assign (r := .p _)) rfl rfl ?_)
  refine arun_nil ?_
  refine awp_block ?_
  refine awp_loopR (fun m st => ∃ k : Nat, m + k = w ∧ st = St.of [(0, .p (.v (.int .i64 (n / 256 ^ k : Nat)))), (5, .row 5), (6, .p (.v (.int .i64 ((w : Int) - 1 - k))))] [(5, .row 5 1 w (bs (bgK w n k)))]) w ?_ ?_
  · refine ⟨_, re_of (fun _ => 8) _ _ ?_ ?_ rfl, 0, by omega, rfl⟩
    · rw [Nat.pow_zero, Nat.div_one]
      refine ⟨⟨rfl, rfl⟩, ⟨rfl, rfl⟩, ⟨?_, rfl⟩, trivial⟩
      show AV.p (.v (.int .i64 ((w : Int) - 1))) = AV.p (.v (.int .i64 ((w : Int) - 1 - ((0 : Nat) : Int))))
      congr 3; omega
    · rw [show bgK w n 0 = List.replicate w 0 by rw [bgK, List.drop_of_length_le (by rw [beN_len]; omega), List.append_nil]; rfl]
      rw [show bs (List.replicate w 0) = List.replicate w (PV.v (.int .u8 0)) by simp [bs]]
      exact ⟨⟨rfl, rfl⟩, trivial⟩
  rintro m st ⟨k, hk, rfl⟩
  refine awp_seq (awp_seq ?_)
  refine awp_text (by kernel_rfl) ?_
  (refine r_pure (a_move (r := .p _)) rfl rfl ?_)
  (refine r_pure a_geq rfl rfl ?_)
  refine arun_nil ?_
  refine thn_n ?_
  refine awp_cond _ rfl (fun h => ?_) (fun h => ?_)
  · have hlt : k < w := by simp at h; omega
    clear h
    have hq : n / 256 ^ k < 9223372036854775808 := Nat.lt_of_le_of_lt (Nat.div_le_self _ _) hn
    have hset := bgK_set w n k hlt
    have hnx : n / 256 ^ (k + 1) = n / 256 ^ k / 256 := by rw [Nat.pow_succ, Nat.div_div_eq_div_mul]
    have hlen := bgK_len w n k (by omega)
    generalize n / 256 ^ k = q at hq hset hnx ⊢
    have g4 : setR (bs (bgK w n k)) (w - 1 - k) [.v (.int .u8 ((q % 256 : Nat) : Int))] = bs (bgK w n (k + 1)) := by rw [bs_set (by omega), hset]
    have g5 : (bs (bgK w n k)).length = w := by rw [bs_length]; exact hlen
    have g6 : (q : Int).fdiv (2 ^ min (8 : Int).toNat IntKind.i64.bits) = ((q / 256 : Nat) : Int) := by
      rw [show (2 : Int) ^ min (8 : Int).toNat IntKind.i64.bits = 256 from rfl, Int.fdiv_eq_ediv_of_nonneg _ (by omega)]; omega
    refine awp_skip (awp_seq (awp_block (awp_seq ?_)))
    refine awp_text (by kernel_rfl) ?_
    (refine r_pure (a_move (r := .row _)) rfl rfl ?_)
    (refine r_pure (a_move (r := .p _)) rfl rfl ?_)
    (refine r_pure (a_move (r := .p _)) rfl rfl ?_)
    (refine r_pure (a_bits (by simp) (and255 q hq)) rfl rfl ?_)
    (refine r_pure (a_conv Try.underlying3 Try.underlying5 (by first | exact IntWalk.u8_in _ (by omega) | rfl)) rfl rfl ?_)
    (refine r_run (a_indexAddrR Try.underlying22 sz5 (by omega) (by omega) (show _ = w - 1 - k by omega)) rfl rfl ⟨rfl, trivial⟩ ?_)
    (refine r_run (a_storeR (Y := .p _) sz5 rfl rfl (by first | rfl | omega) (by omega) g4) rfl rfl ⟨rfl, trivial⟩ ?_)
    refine arun_nil ?_
    refine thn_n ?_
    refine awp_text (by kernel_rfl) ?_
    (refine r_pure (a_move (r := .p _)) rfl rfl ?_)
    (refine r_pure (a_shr (by omega) g6) rfl rfl ?_)
    (refine r_pure (a_assign (r := .p _)) rfl rfl ?_)
    refine arun_nil ?_
    refine inb_n (thn_n ?_)
    refine awp_text (by kernel_rfl) ?_
    (refine r_pure (a_move (r := .p _)) rfl rfl ?_)
    (refine r_pure (a_sub (by first | exact IntWalk.i64_in _ (by omega) | rfl)) rfl rfl ?_)
    (refine r_pure (a_assign (r := .p _)) rfl rfl ?_)
    refine arun_nil ?_
    refine thn_n ?_
    refine ⟨m - 1, by omega, _, re_of id _ _ ?_ ?_ rfl, k + 1, by omega, rfl⟩
    · refine ⟨⟨?_, rfl⟩, ⟨rfl, rfl⟩, ⟨?_, rfl⟩, trivial⟩
      · show AV.p (.v (.int .i64 ((q / 256 : Nat) : Int))) = AV.p (.v (.int .i64 ((n / 256 ^ (k + 1) : Nat) : Int)))
        rw [hnx]
      · show AV.p (.v (.int .i64 ((w : Int) - 1 - (k : Int) - 1))) = AV.p (.v (.int .i64 ((w : Int) - 1 - ((k + 1 : Nat) : Int))))
        congr 3; omega
    · exact ⟨⟨rfl, rfl⟩, trivial⟩
  have hge : k = w := by simp at h; omega
  clear h
  subst hge
  rw [show bgK k n k = beN k n by simp [bgK]]
  refine awp_exit (awp_seq ?_)
  refine awp_text (by kernel_rfl) ?_
  (refine r_pure (a_move (r := .row _)) rfl rfl ?_)
  (refine r_pure (a_assign (r := .row _)) rfl rfl ?_)
  refine arun_nil ?_
  refine awp_ret ?_
  refine ⟨(by first | exact .inl rfl | exact .inr rfl), _, (fun _ => 5), (.tmp _ _ _ _ rfl .nil), ?_, rfl, ?_, rfl⟩
  · exact rfl
  · exact ⟨⟨rfl, rfl⟩, trivial⟩
end Go.Proofs.Ytgbgpidimipfjaa
