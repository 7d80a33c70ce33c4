/- bytes.Clone, bytes.Equal, over data; a number as so many bytes. -/
import Derived.Test.YtmdkfhmmhiofbaaMa4
import Derived.Test.YtmdkfhmmhiofbaaStb
namespace Go.Proofs.Ytmdkfhmmhiofbaa
open Go.RowKit Go.Sort
set_option linter.unusedVariables false
set_option linter.unusedSimpArgs false
set_option maxRecDepth 100000

/-! bits -/
theorem i64_and_mask (n k : Nat) (hn : n < 9223372036854775808) (hk : k ≤ 62) : bits .and .i64 (n : Int) ((2 ^ k - 1 : Nat) : Int) = ((n % 2 ^ k : Nat) : Int) := by
  have hp : 2 ^ k ≤ 2 ^ 62 := Nat.pow_le_pow_right (by decide) hk
  have hp' : n % 2 ^ k ≤ n := Nat.mod_le _ _
  have h1 : (BitVec.ofInt 64 (n : Int)).toNat = n := by
    rw [BitVec.ofInt_natCast, BitVec.toNat_ofNat]; exact Nat.mod_eq_of_lt (by omega)
  have h2 : (BitVec.ofInt 64 ((2 ^ k - 1 : Nat) : Int)).toNat = 2 ^ k - 1 := by
    rw [BitVec.ofInt_natCast, BitVec.toNat_ofNat]; exact Nat.mod_eq_of_lt (by omega)
  show IntKind.i64.wrap ((BitVec.ofInt 64 (n : Int) &&& BitVec.ofInt 64 ((2 ^ k - 1 : Nat) : Int)).toNat : Int) = _
  rw [BitVec.toNat_and, h1, h2, Nat.and_two_pow_sub_one_eq_mod, IntKind.wrap_i64]
  omega
theorem i64_and_65535 (n : Nat) (hn : n < 9223372036854775808) : bits .and .i64 (n : Int) 65535 = ((n % 65536 : Nat) : Int) := i64_and_mask n 16 hn (by omega)
theorem i64_and_255 (n : Nat) (hn : n < 9223372036854775808) : bits .and .i64 (n : Int) 255 = ((n % 256 : Nat) : Int) := i64_and_mask n 8 hn (by omega)
theorem or_add (a b i : Nat) (hb : b < 2 ^ i) : (a * 2 ^ i) ||| b = a * 2 ^ i + b := by
  have := Nat.two_pow_add_eq_or_of_lt (i := i) (b := b) hb a
  rw [Nat.mul_comm] at this
  exact this.symm
theorem u32_or (a b i : Nat) (hb : b < 2 ^ i) (h : a * 2 ^ i + b < 4294967296) : bits .or .u32 ((a * 2 ^ i : Nat) : Int) (b : Int) = ((a * 2 ^ i + b : Nat) : Int) := by
  have h1 : (BitVec.ofInt 32 ((a * 2 ^ i : Nat) : Int)).toNat = a * 2 ^ i := by
    rw [BitVec.ofInt_natCast, BitVec.toNat_ofNat]; exact Nat.mod_eq_of_lt (by omega)
  have h2 : (BitVec.ofInt 32 (b : Int)).toNat = b := by
    rw [BitVec.ofInt_natCast, BitVec.toNat_ofNat]; exact Nat.mod_eq_of_lt (by omega)
  show IntKind.u32.wrap ((BitVec.ofInt 32 ((a * 2 ^ i : Nat) : Int) ||| BitVec.ofInt 32 (b : Int)).toNat : Int) = _
  rw [BitVec.toNat_or, h1, h2, or_add a b i hb, IntWalk.u32_in _ (by omega)]
theorem i64_or (a b i : Nat) (hb : b < 2 ^ i) (h : a * 2 ^ i + b < 9223372036854775808) : bits .or .i64 ((a * 2 ^ i : Nat) : Int) (b : Int) = ((a * 2 ^ i + b : Nat) : Int) := by
  have h1 : (BitVec.ofInt 64 ((a * 2 ^ i : Nat) : Int)).toNat = a * 2 ^ i := by
    rw [BitVec.ofInt_natCast, BitVec.toNat_ofNat]; exact Nat.mod_eq_of_lt (by omega)
  have h2 : (BitVec.ofInt 64 (b : Int)).toNat = b := by
    rw [BitVec.ofInt_natCast, BitVec.toNat_ofNat]; exact Nat.mod_eq_of_lt (by omega)
  show IntKind.i64.wrap ((BitVec.ofInt 64 ((a * 2 ^ i : Nat) : Int) ||| BitVec.ofInt 64 (b : Int)).toNat : Int) = _
  rw [BitVec.toNat_or, h1, h2, or_add a b i hb, IntKind.wrap_i64]
  omega
theorem u16_not (n : Nat) (hn : n < 65536) : bits .xor .u16 IntKind.u16.max (n : Int) = ((65535 - n : Nat) : Int) := by
  have h1 : (BitVec.ofInt 16 (n : Int)).toNat = n := by
    rw [BitVec.ofInt_natCast, BitVec.toNat_ofNat]; exact Nat.mod_eq_of_lt (by omega)
  have e : BitVec.ofInt 16 IntKind.u16.max = BitVec.allOnes 16 := by decide
  show IntKind.u16.wrap ((BitVec.ofInt 16 IntKind.u16.max ^^^ BitVec.ofInt 16 (n : Int)).toNat : Int) = _
  rw [e, BitVec.allOnes_xor, BitVec.toNat_not, h1, IntWalk.u16_in _ (by omega)]

/-! bytes -/
def bN (xs : List Int) (i : Nat) : Nat := (xs.getD i 0).toNat
theorem isB_at {xs : List Int} (h : isB xs) (i : Nat) : 0 ≤ xs.getD i 0 ∧ xs.getD i 0 < 256 := by
  rw [List.getD_eq_getElem?_getD]
  rcases Nat.lt_or_ge i xs.length with hi | hi
  · rw [List.getElem?_eq_getElem hi]; exact h _ (List.getElem_mem hi)
  · rw [List.getElem?_eq_none hi]; simp
theorem bN_lt {xs : List Int} (h : isB xs) (i : Nat) : bN xs i < 256 := by have := isB_at h i; unfold bN; omega
theorem bN_at {xs : List Int} (h : isB xs) {i : Nat} (hi : i < xs.length) : (bs xs)[i]? = some (.v (.int .u8 (bN xs i : Nat))) := by
  have h2 := isB_at h i
  have e : xs[i]? = some ((bN xs i : Nat) : Int) := by
    rw [List.getElem?_eq_getElem hi]
    rw [List.getD_eq_getElem?_getD, List.getElem?_eq_getElem hi] at h2
    simp only [Option.getD_some] at h2
    unfold bN
    rw [List.getD_eq_getElem?_getD, List.getElem?_eq_getElem hi]
    simp only [Option.getD_some]
    congr 1; omega
  exact bs_at e
theorem ix_of {α : Type} {l : List α} {i j : Nat} {r : α} (g : l[j]? = some r) (h : i = j) : l[i]? = some r := by rw [h]; exact g

theorem bytesEqual_s (n m : Nat) (xs ys : List Int) (hx : isB xs) (hy : isB ys) : Fn Try.prog 12 [.p (.sl n 1 (bs xs)), .p (.sl m 1 (bs ys))] (.p (.v (.bool (decide (xs = ys))))) [] := by
  have e : decide (xs = ys) = decide (strOfNums xs = strOfNums ys) := by
    refine decide_eq_decide.2 ⟨fun h => by rw [h], fun h => nums_inj hx hy h⟩
  rw [e]
  refine fn_intro Try.func12 rfl (Nat.le_of_ble_eq_true rfl) fun w0 A => ?_
  refine awp_seq ?_
  refine awp_text (by kernel_rfl) ?_
  (refine r_pure (a_assign (r := .p _)) rfl rfl ?_)
  refine arun_nil ?_
  refine awp_seq ?_
  refine awp_text (by kernel_rfl) ?_
  (refine r_pure (a_move (r := .p _)) rfl rfl ?_)
  (refine r_run (a_b2s Try.underlying22 Try.underlying5 Try.underlying9 (src_sl) rfl rfl) rfl rfl trivial ?_)
  (refine r_pure (a_move (r := .p _)) rfl rfl ?_)
  (refine r_run (a_b2s Try.underlying22 Try.underlying5 Try.underlying9 (src_sl) rfl rfl) rfl rfl trivial ?_)
  (refine r_pure a_seql rfl rfl ?_)
  (refine r_pure (a_assign (r := .p _)) rfl rfl ?_)
  refine arun_nil ?_
  refine awp_ret ?_
  refine ⟨(by first | exact .inl rfl | exact .inr rfl), _, (fun o => o), (.tmp _ _ _ _ rfl .nil), ?_, rfl, ?_, rfl⟩
  · exact rfl
  · exact trivial

/-! a number as bytes -/
/-- a number as so many bytes, the highest one first -/
def beN (m n : Nat) : List Int := (List.range m).map fun i => ((n / 2 ^ (8 * (m - 1 - i)) % 256 : Nat) : Int)
theorem beN_len (m n : Nat) : (beN m n).length = m := by simp [beN]
theorem beN_B (m n : Nat) : isB (beN m n) := by
  intro x hx
  simp only [beN, List.mem_map] at hx
  obtain ⟨i, _, rfl⟩ := hx
  omega
def bgK (m n k : Nat) : List Int := List.replicate (m - k) 0 ++ (beN m n).drop (m - k)
theorem bgK_len (m n k : Nat) (hk : k ≤ m) : (bgK m n k).length = m := by
  rw [bgK, List.length_append, List.length_replicate, List.length_drop, beN_len]; omega
theorem bgK_set (m n k : Nat) (hk : k < m) : (bgK m n k).set (m - 1 - k) ((n / 256 ^ k % 256 : Nat) : Int) = bgK m n (k + 1) := by
  have e : m - k = (m - 1 - k) + 1 := by omega
  have hl : m - 1 - k < (beN m n).length := by rw [beN_len]; omega
  have hb : (beN m n)[m - 1 - k] = ((n / 256 ^ k % 256 : Nat) : Int) := by
    simp only [beN, List.getElem_map, List.getElem_range]
    rw [show 8 * (m - 1 - (m - 1 - k)) = 8 * k by omega, Nat.pow_mul]
  rw [bgK, bgK, show m - (k + 1) = m - 1 - k by omega, e, List.replicate_succ', List.append_assoc, List.set_append_right _ _ (by simp), List.length_replicate, Nat.sub_self, List.singleton_append, List.set_cons_zero, List.drop_eq_getElem_cons hl, hb]

set_option maxHeartbeats 1000000 in
theorem bigN_s (w n : Nat) (hw : w ≤ 8) (hn : n < 9223372036854775808) : Fn Try.prog 41 [.p (.v (.int .i64 n)), .p (.v (.int .i64 w))] (.row 0) [(0, .row 5 1 w (bs (beN w n)))] := by
  refine fn_intro Try.func41 rfl (Nat.le_of_ble_eq_true rfl) fun w0 A => ?_
  refine awp_seq ?_
  refine awp_text (by kernel_rfl) ?_
  (refine r_pure (a_assign (r := .p _)) rfl rfl ?_)
  refine arun_nil ?_
  refine awp_seq ?_
  refine awp_text (by kernel_rfl) ?_
  (refine r_pure (a_move (r := .p _)) rfl rfl ?_)
  (refine r_run (a_make1 8 Try.underlying22 eo5 zr5 rfl (by omega) (by omega) (by omega) (by simp only [maxLen]; omega) rfl) rfl rfl ⟨rfl, trivial⟩ ?_)
  (refine r_pure (a_assign (r := .row _)) rfl rfl ?_)
  refine arun_nil ?_
  refine awp_seq (awp_seq ?_)
  refine awp_text (by kernel_rfl) ?_
  (refine r_pure (a_move (r := .p _)) rfl rfl ?_)
  (refine r_pure (a_sub (by first | exact IntWalk.i64_in _ (by omega) | rfl)) rfl rfl ?_)
  (refine r_pure (a_assign (r := .p _)) rfl rfl ?_)
  refine arun_nil ?_
  refine awp_block ?_
  refine awp_loopR (fun m st => ∃ k : Nat, m + k = w ∧ st = St.of [(0, .p (.v (.int .i64 (n / 256 ^ k : Nat)))), (5, .row 5), (6, .p (.v (.int .i64 ((w : Int) - 1 - k))))] [(5, .row 5 1 w (bs (bgK w n k)))]) w ?_ ?_
  · refine ⟨_, re_of (fun _ => 8) _ _ ?_ ?_ rfl, 0, by omega, rfl⟩
    · rw [Nat.pow_zero, Nat.div_one]
      refine ⟨⟨rfl, rfl⟩, ⟨rfl, rfl⟩, ⟨?_, rfl⟩, trivial⟩
      show AV.p (.v (.int .i64 ((w : Int) - 1))) = AV.p (.v (.int .i64 ((w : Int) - 1 - ((0 : Nat) : Int))))
      congr 3; omega
    · rw [show bgK w n 0 = List.replicate w 0 by rw [bgK, List.drop_of_length_le (by rw [beN_len]; omega), List.append_nil]; rfl]
      rw [show bs (List.replicate w 0) = List.replicate w (PV.v (.int .u8 0)) by simp [bs]]
      exact ⟨⟨rfl, rfl⟩, trivial⟩
  rintro m st ⟨k, hk, rfl⟩
  refine awp_seq (awp_seq ?_)
  refine awp_text (by kernel_rfl) ?_
  (refine r_pure (a_move (r := .p _)) rfl rfl ?_)
  (refine r_pure a_geq rfl rfl ?_)
  refine arun_nil ?_
  refine thn_n ?_
  refine awp_cond _ rfl (fun h => ?_) (fun h => ?_)
  · have hlt : k < w := by simp at h; omega
    clear h
    have hq : n / 256 ^ k < 9223372036854775808 := Nat.lt_of_le_of_lt (Nat.div_le_self _ _) hn
    have hset := bgK_set w n k hlt
    have hnx : n / 256 ^ (k + 1) = n / 256 ^ k / 256 := by rw [Nat.pow_succ, Nat.div_div_eq_div_mul]
    have hlen := bgK_len w n k (by omega)
    generalize n / 256 ^ k = q at hq hset hnx ⊢
    have g4 : setR (bs (bgK w n k)) (w - 1 - k) [.v (.int .u8 ((q % 256 : Nat) : Int))] = bs (bgK w n (k + 1)) := by rw [bs_set (by omega), hset]
    have g5 : (bs (bgK w n k)).length = w := by rw [bs_length]; exact hlen
    have g6 : (q : Int).fdiv (2 ^ min (8 : Int).toNat IntKind.i64.bits) = ((q / 256 : Nat) : Int) := by
      rw [show (2 : Int) ^ min (8 : Int).toNat IntKind.i64.bits = 256 from rfl, Int.fdiv_eq_ediv_of_nonneg _ (by omega)]; omega
    refine awp_skip (awp_seq (awp_block (awp_seq ?_)))
    refine awp_text (by kernel_rfl) ?_
    (refine r_pure (a_move (r := .row _)) rfl rfl ?_)
    (refine r_pure (a_move (r := .p _)) rfl rfl ?_)
    (refine r_pure (a_move (r := .p _)) rfl rfl ?_)
    (refine r_pure (a_bits (by simp) (i64_and_255 q hq)) rfl rfl ?_)
    (refine r_pure (a_conv Try.underlying3 Try.underlying5 (by first | exact IntWalk.u8_in _ (by omega) | rfl)) rfl rfl ?_)
    (refine r_run (a_indexAddrR Try.underlying22 sz5 (by omega) (by omega) (show _ = w - 1 - k by omega)) rfl rfl ⟨rfl, trivial⟩ ?_)
    (refine r_run (a_storeR (Y := .p _) sz5 rfl rfl (by first | rfl | omega) (by first | omega | (simp; done) | (simp; omega)) g4) rfl rfl ⟨rfl, trivial⟩ ?_)
    refine arun_nil ?_
    refine thn_n ?_
    refine awp_text (by kernel_rfl) ?_
    (refine r_pure (a_move (r := .p _)) rfl rfl ?_)
    (refine r_pure (a_shr (by omega) g6) rfl rfl ?_)
    (refine r_pure (a_assign (r := .p _)) rfl rfl ?_)
    refine arun_nil ?_
    refine inb_n (thn_n ?_)
    refine awp_text (by kernel_rfl) ?_
    (refine r_pure (a_move (r := .p _)) rfl rfl ?_)
    (refine r_pure (a_sub (by first | exact IntWalk.i64_in _ (by omega) | rfl)) rfl rfl ?_)
    (refine r_pure (a_assign (r := .p _)) rfl rfl ?_)
    refine arun_nil ?_
    refine thn_n ?_
    refine ⟨m - 1, by omega, _, re_of id _ _ ?_ ?_ rfl, k + 1, by omega, rfl⟩
    · refine ⟨⟨?_, rfl⟩, ⟨rfl, rfl⟩, ⟨?_, rfl⟩, trivial⟩
      · show AV.p (.v (.int .i64 ((q / 256 : Nat) : Int))) = AV.p (.v (.int .i64 ((n / 256 ^ (k + 1) : Nat) : Int)))
        rw [hnx]
      · show AV.p (.v (.int .i64 ((w : Int) - 1 - (k : Int) - 1))) = AV.p (.v (.int .i64 ((w : Int) - 1 - ((k + 1 : Nat) : Int))))
        congr 3; omega
    · exact ⟨⟨rfl, rfl⟩, trivial⟩
  have hge : k = w := by simp at h; omega
  clear h
  subst hge
  rw [show bgK k n k = beN k n by simp [bgK]]
  refine awp_exit (awp_seq ?_)
  refine awp_text (by kernel_rfl) ?_
  (refine r_pure (a_move (r := .row _)) rfl rfl ?_)
  (refine r_pure (a_assign (r := .row _)) rfl rfl ?_)
  refine arun_nil ?_
  refine awp_ret ?_
  refine ⟨(by first | exact .inl rfl | exact .inr rfl), _, (fun _ => 5), (.tmp _ _ _ _ rfl .nil), ?_, rfl, ?_, rfl⟩
  · exact rfl
  · exact ⟨⟨rfl, rfl⟩, trivial⟩
end Go.Proofs.Ytmdkfhmmhiofbaa
