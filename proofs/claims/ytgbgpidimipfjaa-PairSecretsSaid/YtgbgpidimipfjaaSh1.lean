/- sha.Pad and its reference, over data. -/
import Derived.Test.YtgbgpidimipfjaaAbc
import Derived.Test.YtgbgpidimipfjaaTab
namespace Go.Proofs.Ytgbgpidimipfjaa
open Go.RowKit Go.Sort
set_option linter.unusedVariables false
set_option linter.unusedSimpArgs false
set_option maxRecDepth 100000

/-- bytes and an error number -/
def bRes (e : Int) : AV := if e = 0 then .tup [.row 0, .p (.v (.int .i64 0))] else .tup [.p (.v (.slice none 0 0)), .p (.v (.int .i64 e))]
def bNew (e : Int) (n : Nat) (xs : List Int) : List (Nat × AObj) := if e = 0 then [(0, .row 5 1 n (bs xs))] else []
theorem bRes_bad {e e' : Int} (h : e = e') (he : e' ≠ 0) (n : Nat) (xs : List Int) : bRes e = .tup [.p (.v (.slice none 0 0)), .p (.v (.int .i64 e'))] ∧ bNew e n xs = [] := by
  subst h; unfold bRes bNew
  rw [if_neg he, if_neg he]; exact ⟨rfl, rfl⟩
theorem bRes_good {e : Int} (h : e = 0) (n : Nat) (xs : List Int) : bRes e = .tup [.row 0, .p (.v (.int .i64 0))] ∧ bNew e n xs = [(0, .row 5 1 n (bs xs))] := by
  subst h; exact ⟨rfl, rfl⟩

def padZ (n : Nat) : Nat := (119 - n % 64) % 64
def be8 (n : Nat) : List Int := (List.range 8).map fun i => ((n / 2 ^ (8 * (7 - i)) % 256 : Nat) : Int)
def padTo (xs : List Int) (j : Nat) : List Int := xs ++ [128] ++ List.replicate j 0
def shaPad (xs : List Int) : List Int := padTo xs (padZ xs.length) ++ be8 (8 * xs.length)
theorem padTo_len (xs : List Int) (j : Nat) : (padTo xs j).length = xs.length + 1 + j := by simp [padTo]; omega
theorem padTo_succ (xs : List Int) (j : Nat) : padTo xs j ++ [0] = padTo xs (j + 1) := by
  simp [padTo, List.replicate_succ']
theorem be8_len (n : Nat) : (be8 n).length = 8 := by simp [be8]
theorem be8_take_succ (n k : Nat) (hk : k < 8) : (be8 n).take (k + 1) = (be8 n).take k ++ [((n / 2 ^ (8 * (7 - k)) % 256 : Nat) : Int)] := by
  rw [List.take_succ_eq_append_getElem (by rw [be8_len]; omega)]
  simp [be8]
theorem be8_B (n : Nat) : isB (be8 n) := by
  intro x hx
  simp [be8] at hx
  omega
theorem padTo_B (xs : List Int) (j : Nat) (h : isB xs) : isB (padTo xs j) := by
  intro x hx
  simp [padTo] at hx
  rcases hx with h1 | h1 | ⟨_, h1⟩
  · exact h x h1
  · omega
  · omega
theorem shaPad_B {xs : List Int} (h : isB xs) : isB (shaPad xs) := by
  intro x hx
  rcases List.mem_append.1 hx with h1 | h1
  · exact padTo_B _ _ h x h1
  · exact be8_B _ x h1
def padLen (n : Nat) : Nat := n + 9 + padZ n
theorem shaPad_len (xs : List Int) : (shaPad xs).length = padLen xs.length := by
  simp [shaPad, padTo_len, be8, padLen]; omega
theorem padLen_64 (n : Nat) : padLen n % 64 = 0 := by unfold padLen padZ; omega
theorem padZ_lt (n : Nat) : padZ n < 64 := by unfold padZ; omega
def padE (n : Nat) : Int := if 1000 < n then 1 else 0
theorem byte_of (n k : Nat) : IntKind.u8.wrap ((n : Int).fdiv (2 ^ k)) = ((n / 2 ^ k % 256 : Nat) : Int) := by
  rw [IntKind.wrap_u8, Int.fdiv_eq_ediv_of_nonneg _ (by exact Int.le_of_lt (Int.pow_pos (by omega)))]
  simp

theorem pad_s (n : Nat) (xs : List Int) (hn : xs.length = n) : Fn Try.prog 55 [.p (.sl n 1 (bs xs))] (bRes (padE n)) (bNew (padE n) (padLen n) (shaPad xs)) := by
  refine fn_intro Try.func55 rfl (Nat.le_of_ble_eq_true rfl) fun w0 A => ?_
  refine awp_seq ?_
  refine awp_text (by kernel_rfl) ?_
  (refine r_pure (a_assign (r := .p _)) rfl rfl ?_)
  (refine r_pure (a_assign (r := .p _)) rfl rfl ?_)
  refine arun_nil ?_
  refine awp_seq (awp_seq ?_)
  refine awp_text (by kernel_rfl) ?_
  (refine r_pure (a_move (r := .p _)) rfl rfl ?_)
  (refine r_pure (a_lenS Try.underlying22) rfl rfl ?_)
  (refine r_pure a_gtr rfl rfl ?_)
  refine arun_nil ?_
  refine thn_n ?_
  refine awp_cond _ rfl (fun h => ?_) (fun h => ?_)
  · have h2 : 1000 < n := by simp at h; omega
    refine awp_seq ?_
    refine awp_text (by kernel_rfl) ?_
    (refine r_pure (a_assign (r := .p _)) rfl rfl ?_)
    (refine r_pure (a_assign (r := .p _)) rfl rfl ?_)
    refine arun_nil ?_
    refine awp_ret (thn_r ?_)
    obtain ⟨e1, e2⟩ := bRes_bad (e' := 1) (show padE n = 1 by unfold padE; rw [if_pos h2]) (by omega) (padLen n) (shaPad xs)
    rw [e1, e2]
    refine ⟨(by first | exact .inl rfl | exact .inr rfl), _, (fun o => o), (.tmp _ _ _ _ rfl (.tmp _ _ _ _ rfl .nil)), ?_, rfl, ?_, rfl⟩
    · exact rfl
    · exact trivial
  have h2 : n ≤ 1000 := by simp at h; omega
  clear h
  have hpz := padZ_lt n
  obtain ⟨e1, e2⟩ := bRes_good (show padE n = 0 by unfold padE; rw [if_neg (by omega)]) (padLen n) (shaPad xs)
  rw [e1, e2]
  clear e1 e2
  refine awp_skip (awp_seq ?_)
  refine awp_text (by kernel_rfl) ?_
  (refine r_pure (a_move (r := .p _)) rfl rfl ?_)
  (refine r_run (a_appendNil 11 Try.underlying22 eo5 (src_sl) (by simp only [maxLen]; omega) (by omega)) rfl rfl ⟨rfl, trivial⟩ ?_)
  (refine r_run (a_buildSlice 12 Try.underlying22 sz5 zc5 (Nat.le_of_ble_eq_true rfl) (Nat.le_of_ble_eq_true rfl) rfl rfl rfl rfl (Nat.le_of_ble_eq_true rfl)) rfl rfl ⟨rfl, trivial⟩ ?_)
  (refine r_run (a_append 13 Try.underlying22 eo5 (src_row) (by simp only [maxLen]; omega) (by omega) rfl rfl) rfl rfl ⟨rfl, rfl, rfl, trivial⟩ ?_)
  (refine r_pure (a_assign (r := .row _)) rfl rfl ?_)
  refine arun_nil ?_
  refine awp_seq (awp_block ?_)
  refine awp_loopR (fun m st => ∃ j : Nat, m + j = padZ n ∧ st = St.of [(0, .p (.sl n 1 (bs xs))), (4, .row 4)] [(4, .row 5 1 (n + 1 + j) (bs (padTo xs j)))]) (padZ n) ?_ ?_
  · refine ⟨_, re_of (fun _ => 13) _ _ ?_ ?_ rfl, 0, by omega, rfl⟩
    · (repeat (first | exact trivial | (refine ⟨⟨(by first | rfl | (simp; done) | (simp; omega)), rfl⟩, ?_⟩)))
    · rw [show padTo xs 0 = xs ++ [128] by simp [padTo], ← bs_push]
      exact ⟨⟨rfl, rfl⟩, trivial⟩
  rintro m st ⟨j, hj, rfl⟩
  refine awp_seq (awp_seq ?_)
  refine awp_text (by kernel_rfl) ?_
  (refine r_pure (a_move (r := .row _)) rfl rfl ?_)
  (refine r_run (a_lenR Try.underlying22) rfl rfl ⟨rfl, trivial⟩ ?_)
  (refine r_pure (a_rem (by omega) (by first | exact IntWalk.rem_in _ _ (by omega) | rfl)) rfl rfl ?_)
  (refine r_pure a_neq rfl rfl ?_)
  refine arun_nil ?_
  refine thn_n ?_
  refine awp_cond _ rfl (fun h => ?_) (fun h => ?_)
  · have hlt : j < padZ n := by
      simp at h; unfold padZ at *; omega
    clear h
    refine awp_skip (awp_block ?_)
    refine awp_text (by kernel_rfl) ?_
    (refine r_pure (a_move (r := .row _)) rfl rfl ?_)
    (refine r_run (a_buildSlice 19 Try.underlying22 sz5 zc5 (Nat.le_of_ble_eq_true rfl) (Nat.le_of_ble_eq_true rfl) rfl rfl rfl rfl (Nat.le_of_ble_eq_true rfl)) rfl rfl ⟨rfl, trivial⟩ ?_)
    (refine r_run (a_append 20 Try.underlying22 eo5 (src_row) (by simp only [maxLen]; omega) (by omega) rfl rfl) rfl rfl ⟨rfl, rfl, rfl, trivial⟩ ?_)
    (refine r_pure (a_assign (r := .row _)) rfl rfl ?_)
    refine arun_nil ?_
    refine inb_n (thn_n ?_)
    refine ⟨m - 1, by omega, _, re_of (fun _ => 20) _ _ ?_ ?_ rfl, j + 1, by omega, rfl⟩
    · (repeat (first | exact trivial | (refine ⟨⟨(by first | rfl | (simp; done) | (simp; omega)), rfl⟩, ?_⟩)))
    · rw [← padTo_succ, ← bs_push]
      exact ⟨⟨rfl, rfl⟩, trivial⟩
  have hge : j = padZ n := by
    simp at h; unfold padZ at *; omega
  clear h
  subst hge
  refine awp_exit (awp_seq ?_)
  refine awp_text (by kernel_rfl) ?_
  (refine r_pure (a_move (r := .p _)) rfl rfl ?_)
  (refine r_pure (a_lenS Try.underlying22) rfl rfl ?_)
  (refine r_pure (a_mul (by first | exact IntWalk.i64_in _ (by omega) | rfl)) rfl rfl ?_)
  (refine r_pure (a_assign (r := .p _)) rfl rfl ?_)
  refine arun_nil ?_
  refine awp_seq (awp_seq ?_)
  refine awp_text (by kernel_rfl) ?_
  (refine r_pure (a_assign (r := .p _)) rfl rfl ?_)
  refine arun_nil ?_
  refine awp_block ?_
  refine awp_loopR (fun m st => ∃ k : Nat, m + k = 8 ∧ st = St.of [(4, .row 4), (5, .p (.v (.int .i64 (8 * n)))), (6, .p (.v (.int .i64 (7 - k))))] [(4, .row 5 1 (n + 1 + padZ n + k) (bs (padTo xs (padZ n) ++ (be8 (8 * n)).take k)))]) 8 ?_ ?_
  · refine ⟨_, re_of id _ _ ?_ ?_ rfl, 0, by omega, rfl⟩
    · (repeat (first | exact trivial | (refine ⟨⟨(by first | rfl | (simp; done) | (simp; omega)), rfl⟩, ?_⟩)))
    · rw [List.take_zero, List.append_nil]
      exact ⟨⟨rfl, rfl⟩, trivial⟩
  rintro m st ⟨k, hk, rfl⟩
  refine awp_seq (awp_seq ?_)
  refine awp_text (by kernel_rfl) ?_
  (refine r_pure (a_move (r := .p _)) rfl rfl ?_)
  (refine r_pure a_geq rfl rfl ?_)
  refine arun_nil ?_
  refine thn_n ?_
  refine awp_cond _ rfl (fun h => ?_) (fun h => ?_)
  · have hlt : k < 8 := by simp at h; omega
    clear h
    refine awp_skip (awp_seq (awp_block ?_))
    have hv : IntKind.u8.wrap ((8 * (n : Int)).fdiv (2 ^ min (8 * (7 - (k : Int))).toNat IntKind.i64.bits)) = ((8 * n / 2 ^ (8 * (7 - k)) % 256 : Nat) : Int) := by
      have e1 : min (8 * (7 - (k : Int))).toNat IntKind.i64.bits = 8 * (7 - k) := by
        show min (8 * (7 - (k : Int))).toNat 64 = _
        omega
      rw [e1]
      exact byte_of (8 * n) _
    refine awp_text (by kernel_rfl) ?_
    (refine r_pure (a_move (r := .row _)) rfl rfl ?_)
    (refine r_pure (a_move (r := .p _)) rfl rfl ?_)
    (refine r_pure (a_move (r := .p _)) rfl rfl ?_)
    (refine r_pure (a_mul (by first | exact IntWalk.i64_in _ (by omega) | rfl)) rfl rfl ?_)
    (refine r_pure (a_shr (by omega) rfl) rfl rfl ?_)
    refine ⟨_, _, OkStep.run _ _ _ rfl (a_conv Try.underlying3 Try.underlying5 hv) (by simp), ?_⟩
    (refine r_run (a_buildSlice 34 Try.underlying22 sz5 zc5 (Nat.le_of_ble_eq_true rfl) (Nat.le_of_ble_eq_true rfl) rfl rfl rfl rfl (Nat.le_of_ble_eq_true rfl)) rfl rfl ⟨rfl, trivial⟩ ?_)
    (refine r_run (a_append 35 Try.underlying22 eo5 (src_row) (by simp only [maxLen]; omega) (by omega) rfl rfl) rfl rfl ⟨rfl, rfl, rfl, trivial⟩ ?_)
    (refine r_pure (a_assign (r := .row _)) rfl rfl ?_)
    refine arun_nil ?_
    refine inb_n (thn_n ?_)
    refine awp_text (by kernel_rfl) ?_
    (refine r_pure (a_move (r := .p _)) rfl rfl ?_)
    (refine r_pure (a_sub (by first | exact IntWalk.i64_in _ (by omega) | rfl)) rfl rfl ?_)
    (refine r_pure (a_assign (r := .p _)) rfl rfl ?_)
    refine arun_nil ?_
    refine thn_n ?_
    refine ⟨m - 1, by omega, _, re_of (fun _ => 35) _ _ ?_ ?_ rfl, k + 1, by omega, rfl⟩
    · refine ⟨⟨rfl, rfl⟩, ⟨rfl, rfl⟩, ⟨?_, rfl⟩, trivial⟩
      show AV.p (.v (.int .i64 (7 - (k : Int) - 1))) = AV.p (.v (.int .i64 (7 - ((k + 1 : Nat) : Int))))
      congr 3; omega
    · rw [be8_take_succ _ _ hlt, ← List.append_assoc, ← bs_push]
      exact ⟨⟨rfl, rfl⟩, trivial⟩
  have hge : k = 8 := by simp at h; omega
  clear h
  subst hge
  refine awp_exit (awp_seq ?_)
  refine awp_text (by kernel_rfl) ?_
  (refine r_pure (a_move (r := .row _)) rfl rfl ?_)
  (refine r_run (a_appendNil 37 Try.underlying22 eo5 (src_row) (by simp only [maxLen]; omega) (by omega)) rfl rfl ⟨rfl, rfl, trivial⟩ ?_)
  (refine r_pure (a_assign (r := .row _)) rfl rfl ?_)
  (refine r_pure (a_assign (r := .p _)) rfl rfl ?_)
  refine arun_nil ?_
  refine awp_ret ?_
  have hp : padTo xs (padZ n) ++ List.take 8 (be8 (8 * n)) = shaPad xs := by
    rw [List.take_of_length_le (by rw [be8_len]; omega), shaPad, hn]
  have hl : padLen n = n + 1 + padZ n + 8 := by unfold padLen; omega
  rw [← hp, hl]
  refine ⟨(by first | exact .inl rfl | exact .inr rfl), _, (fun _ => 37), (.tmp _ _ _ _ rfl (.tmp _ _ _ _ rfl .nil)), ?_, rfl, ?_, rfl⟩
  · exact rfl
  · exact ⟨⟨rfl, rfl⟩, trivial⟩
set_option maxHeartbeats 2000000 in
theorem refPad_s (n : Nat) (xs : List Int) (hn : xs.length = n) : Fn Try.prog 57 [.p (.sl n 1 (bs xs))] (bRes (padE n)) (bNew (padE n) (padLen n) (shaPad xs)) := by
  refine fn_intro Try.func57 rfl (Nat.le_of_ble_eq_true rfl) fun w0 A => ?_
  refine awp_seq ?_
  refine awp_text (by kernel_rfl) ?_
  (refine r_pure (a_assign (r := .p _)) rfl rfl ?_)
  (refine r_pure (a_assign (r := .p _)) rfl rfl ?_)
  refine arun_nil ?_
  refine awp_seq (awp_seq ?_)
  refine awp_text (by kernel_rfl) ?_
  (refine r_pure (a_move (r := .p _)) rfl rfl ?_)
  (refine r_pure (a_lenS Try.underlying22) rfl rfl ?_)
  (refine r_pure a_gtr rfl rfl ?_)
  refine arun_nil ?_
  refine thn_n ?_
  refine awp_cond _ rfl (fun h => ?_) (fun h => ?_)
  · have h2 : 1000 < n := by simp at h; omega
    refine awp_seq ?_
    refine awp_text (by kernel_rfl) ?_
    (refine r_pure (a_assign (r := .p _)) rfl rfl ?_)
    (refine r_pure (a_assign (r := .p _)) rfl rfl ?_)
    refine arun_nil ?_
    refine awp_ret (thn_r ?_)
    obtain ⟨e1, e2⟩ := bRes_bad (e' := 1) (show padE n = 1 by unfold padE; rw [if_pos h2]) (by omega) (padLen n) (shaPad xs)
    rw [e1, e2]
    refine ⟨(by first | exact .inl rfl | exact .inr rfl), _, (fun o => o), (.tmp _ _ _ _ rfl (.tmp _ _ _ _ rfl .nil)), ?_, rfl, ?_, rfl⟩
    · exact rfl
    · exact trivial
  have h2 : n ≤ 1000 := by simp at h; omega
  clear h
  have hpz := padZ_lt n
  obtain ⟨e1, e2⟩ := bRes_good (show padE n = 0 by unfold padE; rw [if_neg (by omega)]) (padLen n) (shaPad xs)
  rw [e1, e2]
  clear e1 e2
  refine awp_skip (awp_seq ?_)
  refine awp_text (by kernel_rfl) ?_
  (refine r_run (a_buildSlice0 9 Try.underlying22 sz5) rfl rfl ⟨rfl, trivial⟩ ?_)
  (refine r_pure (a_move (r := .p _)) rfl rfl ?_)
  (refine r_run (a_append 11 Try.underlying22 eo5 (src_sl) (by simp only [maxLen]; omega) (by omega) (Nat.zero_add n) rfl) rfl rfl ⟨rfl, rfl, trivial⟩ ?_)
  (refine r_run (a_buildSlice 12 Try.underlying22 sz5 zc5 (Nat.le_of_ble_eq_true rfl) (Nat.le_of_ble_eq_true rfl) rfl rfl rfl rfl (Nat.le_of_ble_eq_true rfl)) rfl rfl ⟨rfl, trivial⟩ ?_)
  (refine r_run (a_append 13 Try.underlying22 eo5 (src_row) (by simp only [maxLen]; omega) (by omega) rfl rfl) rfl rfl ⟨rfl, rfl, rfl, trivial⟩ ?_)
  (refine r_pure (a_assign (r := .row _)) rfl rfl ?_)
  refine arun_nil ?_
  refine awp_seq (awp_block ?_)
  refine awp_loopR (fun m st => ∃ j : Nat, m + j = padZ n ∧ st = St.of [(0, .p (.sl n 1 (bs xs))), (4, .row 4)] [(4, .row 5 1 (n + 1 + j) (bs (padTo xs j)))]) (padZ n) ?_ ?_
  · refine ⟨_, re_of (fun _ => 13) _ _ ?_ ?_ rfl, 0, by omega, rfl⟩
    · (repeat (first | exact trivial | (refine ⟨⟨(by first | rfl | (simp; done) | (simp; omega)), rfl⟩, ?_⟩)))
    · rw [show padTo xs 0 = xs ++ [128] by simp [padTo], ← bs_push]
      exact ⟨⟨rfl, rfl⟩, trivial⟩
  rintro m st ⟨j, hj, rfl⟩
  refine awp_seq (awp_seq ?_)
  refine awp_text (by kernel_rfl) ?_
  (refine r_pure (a_move (r := .row _)) rfl rfl ?_)
  (refine r_run (a_lenR Try.underlying22) rfl rfl ⟨rfl, trivial⟩ ?_)
  (refine r_pure (a_add (by first | exact IntWalk.i64_in _ (by omega) | rfl)) rfl rfl ?_)
  (refine r_pure (a_rem (by omega) (by first | exact IntWalk.rem_in _ _ (by omega) | rfl)) rfl rfl ?_)
  (refine r_pure a_neq rfl rfl ?_)
  refine arun_nil ?_
  refine thn_n ?_
  refine awp_cond _ rfl (fun h => ?_) (fun h => ?_)
  · have hlt : j < padZ n := by
      simp at h; unfold padZ at *; omega
    clear h
    refine awp_skip (awp_block ?_)
    refine awp_text (by kernel_rfl) ?_
    (refine r_pure (a_move (r := .row _)) rfl rfl ?_)
    (refine r_run (a_buildSlice 20 Try.underlying22 sz5 zc5 (Nat.le_of_ble_eq_true rfl) (Nat.le_of_ble_eq_true rfl) rfl rfl rfl rfl (Nat.le_of_ble_eq_true rfl)) rfl rfl ⟨rfl, trivial⟩ ?_)
    (refine r_run (a_append 21 Try.underlying22 eo5 (src_row) (by simp only [maxLen]; omega) (by omega) rfl rfl) rfl rfl ⟨rfl, rfl, rfl, trivial⟩ ?_)
    (refine r_pure (a_assign (r := .row _)) rfl rfl ?_)
    refine arun_nil ?_
    refine inb_n (thn_n ?_)
    refine ⟨m - 1, by omega, _, re_of (fun _ => 21) _ _ ?_ ?_ rfl, j + 1, by omega, rfl⟩
    · (repeat (first | exact trivial | (refine ⟨⟨(by first | rfl | (simp; done) | (simp; omega)), rfl⟩, ?_⟩)))
    · rw [← padTo_succ, ← bs_push]
      exact ⟨⟨rfl, rfl⟩, trivial⟩
  have hge : j = padZ n := by
    simp at h; unfold padZ at *; omega
  clear h
  subst hge
  refine awp_exit (awp_seq ?_)
  refine awp_text (by kernel_rfl) ?_
  (refine r_pure (a_move (r := .p _)) rfl rfl ?_)
  (refine r_pure (a_lenS Try.underlying22) rfl rfl ?_)
  (refine r_pure (a_mul (by first | exact IntWalk.i64_in _ (by omega) | rfl)) rfl rfl ?_)
  (refine r_pure (a_assign (r := .p _)) rfl rfl ?_)
  refine arun_nil ?_
  refine awp_seq ?_
  have hp : shaPad xs = padTo xs (padZ n) ++ [0, 0, 0, 0, IntKind.u8.wrap (((n : Int) * 8).fdiv (2 ^ 24)), IntKind.u8.wrap (((n : Int) * 8).fdiv (2 ^ 16)), IntKind.u8.wrap (((n : Int) * 8).fdiv (2 ^ 8)), IntKind.u8.wrap ((n : Int) * 8)] := by
    have e : ((n : Int) * 8) = ((8 * n : Nat) : Int) := by omega
    have e0 : IntKind.u8.wrap ((n : Int) * 8) = ((8 * n / 2 ^ 0 % 256 : Nat) : Int) := by rw [IntKind.wrap_u8, e]; simp
    rw [e0, e, byte_of, byte_of, byte_of, shaPad, hn]
    congr 1
    simp only [be8, List.range, List.range.loop, List.map_cons, List.map_nil]
    have z : ∀ k, 14 ≤ k → 8 * n / 2 ^ k % 256 = 0 := fun k hk => by
      rw [Nat.div_eq_of_lt]
      exact Nat.lt_of_lt_of_le (by omega : 8 * n < 2 ^ 14) (Nat.pow_le_pow_right (by omega) hk)
    rw [z (8 * (7 - 0)) (by omega), z (8 * (7 - 1)) (by omega), z (8 * (7 - 2)) (by omega), z (8 * (7 - 3)) (by omega)]
    rfl
  refine awp_text (by kernel_rfl) ?_
  (refine r_pure (a_move (r := .row _)) rfl rfl ?_)
  (refine r_pure (a_move (r := .p _)) rfl rfl ?_)
  (refine r_pure (a_shr (by omega) rfl) rfl rfl ?_)
  (refine r_pure (a_conv Try.underlying3 Try.underlying5 (by first | exact IntWalk.u8_in _ (by omega) | rfl)) rfl rfl ?_)
  (refine r_pure (a_move (r := .p _)) rfl rfl ?_)
  (refine r_pure (a_shr (by omega) rfl) rfl rfl ?_)
  (refine r_pure (a_conv Try.underlying3 Try.underlying5 (by first | exact IntWalk.u8_in _ (by omega) | rfl)) rfl rfl ?_)
  (refine r_pure (a_move (r := .p _)) rfl rfl ?_)
  (refine r_pure (a_shr (by omega) rfl) rfl rfl ?_)
  (refine r_pure (a_conv Try.underlying3 Try.underlying5 (by first | exact IntWalk.u8_in _ (by omega) | rfl)) rfl rfl ?_)
  (refine r_pure (a_move (r := .p _)) rfl rfl ?_)
  (refine r_pure (a_conv Try.underlying3 Try.underlying5 (by first | exact IntWalk.u8_in _ (by omega) | rfl)) rfl rfl ?_)
  (refine r_run (a_buildSlice 37 Try.underlying22 sz5 zc5 (Nat.le_of_ble_eq_true rfl) (Nat.le_of_ble_eq_true rfl) rfl rfl rfl rfl (Nat.le_of_ble_eq_true rfl)) rfl rfl ⟨rfl, trivial⟩ ?_)
  (refine r_run (a_append 38 Try.underlying22 eo5 (src_row) (by simp only [maxLen]; omega) (by omega) rfl rfl) rfl rfl ⟨rfl, rfl, rfl, trivial⟩ ?_)
  (refine r_pure (a_assign (r := .row _)) rfl rfl ?_)
  (refine r_pure (a_assign (r := .p _)) rfl rfl ?_)
  refine arun_nil ?_
  refine awp_ret ?_
  have hl : padLen n = n + 1 + padZ n + 8 := by unfold padLen; omega
  rw [hp, hl, ← bs_appd]
  refine ⟨(by first | exact .inl rfl | exact .inr rfl), _, (fun _ => 38), (.tmp _ _ _ _ rfl (.tmp _ _ _ _ rfl .nil)), ?_, rfl, ?_, rfl⟩
  · exact rfl
  · exact ⟨⟨rfl, rfl⟩, trivial⟩
end Go.Proofs.Ytgbgpidimipfjaa
