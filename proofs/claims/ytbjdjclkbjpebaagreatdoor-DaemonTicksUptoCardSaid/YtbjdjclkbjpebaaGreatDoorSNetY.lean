/- Plain facts on the longest net that holds two addresses. No program is named. What Join of package net computes. What NetJoined of the reference computes; the law NetJoins walked. -/
import Derived.Test.YtbjdjclkbjpebaaGreatDoorSNetZ
import Derived.Lib.BitFns
import Derived.Test.YtbjdjclkbjpebaaGreatDoorSShelf
import Derived.WalkLawsBesides
namespace Go.Proofs.YtbjdjclkbjpebaaGreatDoor
open Tryz
open Go.RowKit Go.Sort
set_option maxHeartbeats 16000000
set_option linter.unusedVariables false
theorem bitLenAux_le (f : Nat) : ∀ (x j : Nat), x < 2 ^ f → (Lib.bitLenAux f x ≤ j ↔ x < 2 ^ j) := by
  induction f with
  | zero => intro x j hx; have : x = 0 := by simpa using hx
            subst this; simp [Lib.bitLenAux, Nat.two_pow_pos]
  | succ f ih =>
    intro x j hx
    by_cases h0 : x = 0
    · subst h0; simp [Lib.bitLenAux, Nat.two_pow_pos]
    · simp only [Lib.bitLenAux, h0, if_false]
      cases j with
      | zero => simp; omega
      | succ j =>
        have h := ih (x / 2) j (by rw [Nat.pow_succ] at hx; omega)
        rw [Nat.pow_succ]
        constructor
        · intro h1; have := h.1 (by omega); omega
        · intro h1; have := h.2 (by omega); omega
theorem bitLen_le (x j : Nat) (hx : x < 2 ^ 64) : Lib.bitLen x ≤ j ↔ x < 2 ^ j := bitLenAux_le 64 x j hx
def lcp (a b : Int) : Int := 32 - (Lib.bitLen (a.toNat ^^^ b.toNat) : Int)
theorem lcp_bd (a b : Int) (h2 : 0 ≤ a) (h3 : a < 4294967296) (h4 : 0 ≤ b) (h5 : b < 4294967296) : 0 ≤ lcp a b ∧ lcp a b ≤ 32 := by
 unfold lcp
 have hx : a.toNat ^^^ b.toNat < 2 ^ 32 := Nat.xor_lt_two_pow (by omega) (by omega)
 have := (bitLen_le (a.toNat ^^^ b.toNat) 32 (by omega)).2 hx
 omega
theorem zgw (a b k : Int) (h2 : 0 ≤ a) (h3 : a < 4294967296) (h4 : 0 ≤ b) (h5 : b < 4294967296) (hk0 : 0 ≤ k) (hk1 : k ≤ 32) : topI b k = topI a k ↔ k ≤ lcp a b := by
 obtain ⟨x, rfl⟩ := Int.eq_ofNat_of_zero_le h2
 obtain ⟨y, rfl⟩ := Int.eq_ofNat_of_zero_le h4
 unfold lcp topI
 obtain ⟨j, hj⟩ : ∃ j : Nat, (32 - k).toNat = j := ⟨_, rfl⟩
 rw [hj]
 have hx : x ^^^ y < 2 ^ 32 := Nat.xor_lt_two_pow (by omega) (by omega)
 have h := bitLen_le (x ^^^ y) j (by omega)
 have e1 : k ≤ 32 - (Lib.bitLen ((x : Int).toNat ^^^ (y : Int).toNat) : Int) ↔ x ^^^ y < 2 ^ j := by
  rw [← h]; simp only [Int.toNat_natCast]; omega
 rw [e1, zbU]
 have key : (x ^^^ y < 2 ^ j) ↔ y / 2 ^ j = x / 2 ^ j := by
  rw [← Nat.div_eq_zero_iff_lt (Nat.two_pow_pos j), ← Nat.shiftRight_eq_div_pow, ← Nat.shiftRight_eq_div_pow, ← Nat.shiftRight_eq_div_pow, Nat.shiftRight_xor_distrib]
  constructor
  ·intro h
   have := congrArg (fun z => z ^^^ (y >>> j)) h
   simp [Nat.xor_assoc] at this
   exact this.symm
  ·intro h; rw [h, Nat.xor_self]
 rw [key]
 have d1 := Nat.div_add_mod x (2 ^ j)
 have d2 := Nat.div_add_mod y (2 ^ j)
 have m1 : ((x : Int) % ((2 ^ j : Nat) : Int)) = ((x % 2 ^ j : Nat) : Int) := by simp
 have m2 : ((y : Int) % ((2 ^ j : Nat) : Int)) = ((y % 2 ^ j : Nat) : Int) := by simp
 rw [m1, m2]
 have l1 := Nat.mod_lt x (Nat.two_pow_pos j)
 have l2 := Nat.mod_lt y (Nat.two_pow_pos j)
 constructor
 ·intro h
  have h' : 2 ^ j * (y / 2 ^ j) = 2 ^ j * (x / 2 ^ j) := by omega
  exact Nat.eq_of_mul_eq_mul_left (Nat.two_pow_pos j) h'
 ·intro h
  rw [h] at d2
  omega
def zcJ (a n b m : Int) : Int := if zai a n = 0 then zai b m else zai a n
def zeD (a n b m : Int) : Int := if zcJ a n b m = 0 then min (min n m) (lcp a b) else 0
def zeE (a n b m : Int) : Int := if zcJ a n b m = 0 then topI a (min (min n m) (lcp a b)) else 0
theorem lz_g (x : Int) (h0 : 0 ≤ x) (h1 : x ≤ 4294967295) : Gives prog 169 #[.int .u32 x] (.int .i64 (32 - (Lib.bitLen x.toNat : Int))) :=
 fun w => (Tryz.bits_LeadingZeros32 x w h0 h1).mono fun _ _ h => ⟨h.1, h.2 ▸ Below.refl _ _⟩
theorem lcp_g (a b : Int) (h2 : 0 ≤ a) (h3 : a < 4294967296) (h4 : 0 ≤ b) (h5 : b < 4294967296) : Gives prog 169 #[.int .u32 (bits .xor .u32 a b)] (.int .i64 (lcp a b)) := by
 have hx : bits .xor .u32 a b = ((a.toNat ^^^ b.toNat : Nat) : Int) := u32_xor a b h2 h3 h4 h5
 have hxlt : a.toNat ^^^ b.toNat < 2 ^ 32 := Nat.xor_lt_two_pow (by omega) (by omega)
 rw [hx]
 exact lz_g _ (by omega) (by omega)
theorem ix0 (a n b m : Int) : ∀ w, (Instr.index 226 (.agg #[.int .u32 a, .int .i64 n, .int .u32 b, .int .i64 m]) (.int .i64 0)).run prog w = .ok (.agg #[.int .u32 a, .int .i64 n]) w := fun _ => by kernel_rfl
theorem ix1 (a n b m : Int) : ∀ w, (Instr.index 226 (.agg #[.int .u32 a, .int .i64 n, .int .u32 b, .int .i64 m]) (.int .i64 1)).run prog w = .ok (.agg #[.int .u32 b, .int .i64 m]) w := fun _ => by kernel_rfl
theorem join_g (a n b m : Int) (h2 : 0 ≤ a) (h3 : a < 4294967296) (h4 : 0 ≤ b) (h5 : b < 4294967296) :
  Gives prog 140 #[.agg #[.int .u32 a, .int .i64 n], .agg #[.int .u32 b, .int .i64 m]] (.tuple #[.agg #[.int .u32 (zeE a n b m), .int .i64 (zeD a n b m)], .int .i64 (zcJ a n b m)]) := by
 intro w
 have i0 := ix0 a n b m
 have i1 := ix1 a n b m
 by_cases hf : zai a n = 0
 ·have hd : (zai a n != 0) = false := by simp [hf]
  by_cases hg : zai b m = 0
  ·have hd2 : (zai b m != 0) = false := by simp [hg]
   have hE : zcJ a n b m = 0 := by unfold zcJ; rw [if_pos hf]; exact hg
   have hn := zcc hf
   have hm := zcc hg
   have hl := lcp_bd a b h2 h3 h4 h5
   have HX := Lib.hid (show zeE a n b m = ofA a (min (min n m) (lcp a b)) ∧ zeD a n b m = ofN (min (min n m) (lcp a b)) ∧ zcJ a n b m = ofE (min (min n m) (lcp a b)) by
    have hk : ¬ (min (min n m) (lcp a b) < 0 ∨ 32 < min (min n m) (lcp a b)) := by omega
    unfold zeE zeD ofA ofN ofE
    rw [if_pos hE, if_pos hE, if_neg hk, if_neg hk, if_neg hk]
    exact ⟨rfl, rfl, hE⟩)
   have hn0 := hn.1
   have hn1 := hn.2.1
   have hm0 := hm.1
   have hm1 := hm.2.1
   have hl0 := hl.1
   have hl1 := hl.2
   clear hf hg hE hn hm hl
   rw [HX.out.1, HX.out.2.1, HX.out.2.2]
   go_enter func140, ntmps140
   go_wp2_with fail
   refine wp_loop_rounds 3 ?_
   rw [rounds_succ]
   go_wp2_with (first | (go_at_call 91; (with_reducible refine Gives.use (zcA a n h2 h3) ?_); intro w1 hb_w1; obtain ⟨hc_w1, hf_w1⟩ := zb2 hb_w1; have hq_w1 := hb_w1.size; (try simp at hq_w1); (try (have hl_w1_w_0 : w.heap.size < w1.heap.size := (by omega); have hm_w1_w_0 := Nat.le_of_lt hl_w1_w_0)); (try (have hl_w1_w_1 : w.heap.size + 1 < w1.heap.size := (by omega); have hm_w1_w_1 := Nat.le_of_lt hl_w1_w_1)); (try (have hl_w1_w_2 : w.heap.size + 2 < w1.heap.size := (by omega); have hm_w1_w_2 := Nat.le_of_lt hl_w1_w_2))))
   rw [rounds_succ]
   go_wp2_with (first | (go_at_call 91; (with_reducible refine Gives.use (zcA b m h4 h5) ?_); intro w2 hb_w2; obtain ⟨hc_w2, hf_w2⟩ := zb2 hb_w2; have hq_w2 := hb_w2.size; (try simp at hq_w2); (try (have hl_w2_w_0 : w.heap.size < w2.heap.size := (by omega); have hm_w2_w_0 := Nat.le_of_lt hl_w2_w_0)); (try (have hl_w2_w_1 : w.heap.size + 1 < w2.heap.size := (by omega); have hm_w2_w_1 := Nat.le_of_lt hl_w2_w_1)); (try (have hl_w2_w_2 : w.heap.size + 2 < w2.heap.size := (by omega); have hm_w2_w_2 := Nat.le_of_lt hl_w2_w_2)); (try (have hl_w2_w1_0 : w1.heap.size < w2.heap.size := (by omega); have hm_w2_w1_0 := Nat.le_of_lt hl_w2_w1_0)); (try (have hl_w2_w1_1 : w1.heap.size + 1 < w2.heap.size := (by omega); have hm_w2_w1_1 := Nat.le_of_lt hl_w2_w1_1)); (try (have hl_w2_w1_2 : w1.heap.size + 2 < w2.heap.size := (by omega); have hm_w2_w1_2 := Nat.le_of_lt hl_w2_w1_2))))
   rw [rounds_succ]
   go_wp2_with fail
   have hcq := zee w2
   refine zdw 16 (by kernel_rfl) (by kernel_rfl) ?_; simp only [List.take_succ_cons, List.take_zero, List.drop_succ_cons, List.drop_zero]; (repeat (first | go_big_quiet_step ((first | (go_at_call 169; exact (lcp_g a b h2 h3 h4 h5).q) | (go_at_call 168; exact (of_g a _ h2 h3).q))) | quiet_step ((first | (go_at_call 169; exact (lcp_g a b h2 h3 h4 h5).q) | (go_at_call 168; exact (of_g a _ h2 h3).q))))); refine wpQuiet_nil ?_
   intro w3 hb_w3
   clear hcq
   (obtain ⟨hc_w3, hf_w3⟩ := zb2 hb_w3; have hq_w3 := hb_w3.size; (try simp at hq_w3); (try (have hl_w3_w_0 : w.heap.size < w3.heap.size := (by omega); have hm_w3_w_0 := Nat.le_of_lt hl_w3_w_0)); (try (have hl_w3_w_1 : w.heap.size + 1 < w3.heap.size := (by omega); have hm_w3_w_1 := Nat.le_of_lt hl_w3_w_1)); (try (have hl_w3_w_2 : w.heap.size + 2 < w3.heap.size := (by omega); have hm_w3_w_2 := Nat.le_of_lt hl_w3_w_2)); (try (have hl_w3_w1_0 : w1.heap.size < w3.heap.size := (by omega); have hm_w3_w1_0 := Nat.le_of_lt hl_w3_w1_0)); (try (have hl_w3_w1_1 : w1.heap.size + 1 < w3.heap.size := (by omega); have hm_w3_w1_1 := Nat.le_of_lt hl_w3_w1_1)); (try (have hl_w3_w1_2 : w1.heap.size + 2 < w3.heap.size := (by omega); have hm_w3_w1_2 := Nat.le_of_lt hl_w3_w1_2)); (try (have hl_w3_w2_0 : w2.heap.size < w3.heap.size := (by omega); have hm_w3_w2_0 := Nat.le_of_lt hl_w3_w2_0)); (try (have hl_w3_w2_1 : w2.heap.size + 1 < w3.heap.size := (by omega); have hm_w3_w2_1 := Nat.le_of_lt hl_w3_w2_1)); (try (have hl_w3_w2_2 : w2.heap.size + 2 < w3.heap.size := (by omega); have hm_w3_w2_2 := Nat.le_of_lt hl_w3_w2_2)))
   go_wp2
   all_goals
    first
     | (rw [show min n (min m (lcp a b)) = n by omega]; exact bodyPost_ret (v := .tuple #[.agg #[.int .u32 (ofA a n), .int .i64 (ofN n)], .int .i64 (ofE n)]) (by simp [results, Tryz.results140, go_sem, *]) rfl ⟨rfl, by (repeat' (first | exact Below.refl _ _ | assumption | refine zbC ?_ (by assumption) | refine za7 ?_ _ | refine zbI ?_ | refine za6 ?_ _ | refine bset ?_ ?_ _ | (show _ ≤ _; simp; omega) | (simp; done)))⟩)
     | (rw [show min n (min m (lcp a b)) = m by omega]; exact bodyPost_ret (v := .tuple #[.agg #[.int .u32 (ofA a m), .int .i64 (ofN m)], .int .i64 (ofE m)]) (by simp [results, Tryz.results140, go_sem, *]) rfl ⟨rfl, by (repeat' (first | exact Below.refl _ _ | assumption | refine zbC ?_ (by assumption) | refine za7 ?_ _ | refine zbI ?_ | refine za6 ?_ _ | refine bset ?_ ?_ _ | (show _ ≤ _; simp; omega) | (simp; done)))⟩)
     | (rw [show min n (min m (lcp a b)) = lcp a b by omega]; exact bodyPost_ret (v := .tuple #[.agg #[.int .u32 (ofA a (lcp a b)), .int .i64 (ofN (lcp a b))], .int .i64 (ofE (lcp a b))]) (by simp [results, Tryz.results140, go_sem, *]) rfl ⟨rfl, by (repeat' (first | exact Below.refl _ _ | assumption | refine zbC ?_ (by assumption) | refine za7 ?_ _ | refine zbI ?_ | refine za6 ?_ _ | refine bset ?_ ?_ _ | (show _ ≤ _; simp; omega) | (simp; done)))⟩)
  ·have hd2 : (zai b m != 0) = true := by simp [hg]
   have hE : zcJ a n b m = zai b m := by unfold zcJ; rw [if_pos hf]
   have HX := Lib.hid (show zeE a n b m = 0 ∧ zeD a n b m = 0 ∧ zcJ a n b m = zai b m by
    unfold zeE zeD; rw [hE, if_neg hg, if_neg hg]; exact ⟨rfl, rfl, rfl⟩)
   clear hf hg hE
   rw [HX.out.1, HX.out.2.1, HX.out.2.2]
   go_enter func140, ntmps140
   go_wp2_with fail
   refine wp_loop_rounds 3 ?_
   rw [rounds_succ]
   go_wp2_with (first | (go_at_call 91; (with_reducible refine Gives.use (zcA a n h2 h3) ?_); intro w1 hb_w1; obtain ⟨hc_w1, hf_w1⟩ := zb2 hb_w1; have hq_w1 := hb_w1.size; (try simp at hq_w1); (try (have hl_w1_w_0 : w.heap.size < w1.heap.size := (by omega); have hm_w1_w_0 := Nat.le_of_lt hl_w1_w_0)); (try (have hl_w1_w_1 : w.heap.size + 1 < w1.heap.size := (by omega); have hm_w1_w_1 := Nat.le_of_lt hl_w1_w_1)); (try (have hl_w1_w_2 : w.heap.size + 2 < w1.heap.size := (by omega); have hm_w1_w_2 := Nat.le_of_lt hl_w1_w_2))))
   rw [rounds_succ]
   go_wp2_with (first | (go_at_call 91; (with_reducible refine Gives.use (zcA b m h4 h5) ?_); intro w2 hb_w2; obtain ⟨hc_w2, hf_w2⟩ := zb2 hb_w2; have hq_w2 := hb_w2.size; (try simp at hq_w2); (try (have hl_w2_w_0 : w.heap.size < w2.heap.size := (by omega); have hm_w2_w_0 := Nat.le_of_lt hl_w2_w_0)); (try (have hl_w2_w_1 : w.heap.size + 1 < w2.heap.size := (by omega); have hm_w2_w_1 := Nat.le_of_lt hl_w2_w_1)); (try (have hl_w2_w_2 : w.heap.size + 2 < w2.heap.size := (by omega); have hm_w2_w_2 := Nat.le_of_lt hl_w2_w_2)); (try (have hl_w2_w1_0 : w1.heap.size < w2.heap.size := (by omega); have hm_w2_w1_0 := Nat.le_of_lt hl_w2_w1_0)); (try (have hl_w2_w1_1 : w1.heap.size + 1 < w2.heap.size := (by omega); have hm_w2_w1_1 := Nat.le_of_lt hl_w2_w1_1)); (try (have hl_w2_w1_2 : w1.heap.size + 2 < w2.heap.size := (by omega); have hm_w2_w1_2 := Nat.le_of_lt hl_w2_w1_2))))
   exact bodyPost_ret (v := .tuple #[.agg #[.int .u32 0, .int .i64 0], .int .i64 (zai b m)]) (by simp [results, Tryz.results140, go_sem, *]) rfl ⟨rfl, by (repeat' (first | exact Below.refl _ _ | assumption | refine zbC ?_ (by assumption) | refine za7 ?_ _ | refine zbI ?_ | refine za6 ?_ _ | refine bset ?_ ?_ _ | (show _ ≤ _; simp; omega) | (simp; done)))⟩
 ·have hd : (zai a n != 0) = true := by simp [hf]
  have hE : zcJ a n b m = zai a n := by unfold zcJ; rw [if_neg hf]
  have HX := Lib.hid (show zeE a n b m = 0 ∧ zeD a n b m = 0 ∧ zcJ a n b m = zai a n by
   unfold zeE zeD; rw [hE, if_neg hf, if_neg hf]; exact ⟨rfl, rfl, rfl⟩)
  clear hf hE
  rw [HX.out.1, HX.out.2.1, HX.out.2.2]
  go_enter func140, ntmps140
  go_wp2_with fail
  refine wp_loop_rounds 3 ?_
  rw [rounds_succ]
  go_wp2_with (first | (go_at_call 91; (with_reducible refine Gives.use (zcA a n h2 h3) ?_); intro w1 hb_w1; obtain ⟨hc_w1, hf_w1⟩ := zb2 hb_w1; have hq_w1 := hb_w1.size; (try simp at hq_w1); (try (have hl_w1_w_0 : w.heap.size < w1.heap.size := (by omega); have hm_w1_w_0 := Nat.le_of_lt hl_w1_w_0)); (try (have hl_w1_w_1 : w.heap.size + 1 < w1.heap.size := (by omega); have hm_w1_w_1 := Nat.le_of_lt hl_w1_w_1)); (try (have hl_w1_w_2 : w.heap.size + 2 < w1.heap.size := (by omega); have hm_w1_w_2 := Nat.le_of_lt hl_w1_w_2))))
  exact bodyPost_ret (v := .tuple #[.agg #[.int .u32 0, .int .i64 0], .int .i64 (zai a n)]) (by simp [results, Tryz.results140, go_sem, *]) rfl ⟨rfl, by (repeat' (first | exact Below.refl _ _ | assumption | refine zbC ?_ (by assumption) | refine za7 ?_ _ | refine zbI ?_ | refine za6 ?_ _ | refine bset ?_ ?_ _ | (show _ ≤ _; simp; omega) | (simp; done)))⟩
theorem topI_fault (a k : Int) (h2 : 0 ≤ a) (hk0 : 0 ≤ k) (hk1 : k ≤ 32) : zai (topI a k) k = 0 := by
 have hn : ¬ (k < 0 ∨ 32 < k) := by omega
 unfold zai
 rw [if_neg hn]
 have : topI a k % 2 ^ (32 - k).toNat = 0 := by
  unfold topI
  have hq := zdl (32 - k).toNat
  generalize (2 : Int) ^ (32 - k).toNat = p at hq
  rw [Int.sub_emod, Int.emod_emod, Int.sub_self, Int.zero_emod]
 rw [if_pos this]
theorem holds_top (a n b m k : Int) (h2 : 0 ≤ a) (h3 : a < 4294967296) (h4 : 0 ≤ b) (h5 : b < 4294967296) (hk0 : 0 ≤ k) (hk1 : k ≤ 32) (hf : zai b m = 0) :
  zaY (topI a k) k b m = decide (k ≤ m ∧ k ≤ lcp a b) := by
 have h := zgw a b k h2 h3 h4 h5 hk0 hk1
 unfold zaY zdb
 rw [hf, topI_fault a k h2 hk0 hk1]
 simp [h]
theorem lcp_self (a : Int) : lcp a a = 32 := by
 unfold lcp
 rw [Nat.xor_self]
 rfl
theorem refJoin_g (a n b m : Int) (h2 : 0 ≤ a) (h3 : a < 4294967296) (h4 : 0 ≤ b) (h5 : b < 4294967296) :
  Gives prog 115 #[.agg #[.int .u32 a, .int .i64 n], .agg #[.int .u32 b, .int .i64 m]] (.tuple #[.agg #[.int .u32 (zeE a n b m), .int .i64 (zeD a n b m)], .int .i64 (zcJ a n b m)]) := by
 intro w
 by_cases hf : zai a n = 0
 ·have hd : (zai a n != 0) = false := by simp [hf]
  by_cases hg : zai b m = 0
  ·have hd2 : (zai b m != 0) = false := by simp [hg]
   have hE : zcJ a n b m = 0 := by unfold zcJ; rw [if_pos hf]; exact hg
   have hn := zcc hf
   have hm := zcc hg
   have hl := lcp_bd a b h2 h3 h4 h5
   obtain ⟨K, hK⟩ : ∃ K, K = min (min n m) (lcp a b) := ⟨_, rfl⟩
   have HX := Lib.hid (show zeE a n b m = topI a K ∧ zeD a n b m = K ∧ zcJ a n b m = 0 by
    unfold zeE zeD
    rw [if_pos hE, if_pos hE, hK]
    exact ⟨rfl, rfl, hE⟩)
   have HK := Lib.hid hK
   have hK0 : 0 ≤ K := by omega
   have hK1 : K ≤ 32 := by omega
   have HH := Lib.hid (show ∀ k, 0 ≤ k → k ≤ 32 → zaY (topI a k) k a n = decide (k ≤ n) ∧ zaY (topI a k) k b m = decide (k ≤ m ∧ k ≤ lcp a b) ∧ ofA a k = topI a k ∧ ofN k = k from fun k hk0 hk1 => by
    have hnk : ¬ (k < 0 ∨ 32 < k) := by omega
    refine ⟨?_, holds_top a n b m k h2 h3 h4 h5 hk0 hk1 hg, ?_, ?_⟩
    ·rw [holds_top a n a n k h2 h3 h2 h3 hk0 hk1 hf, lcp_self]; simp [hk1]
    ·unfold ofA; rw [if_neg hnk]
    ·unfold ofN; rw [if_neg hnk])
   clear hf hg hE hn hm hl hK
   rw [HX.out.1, HX.out.2.1, HX.out.2.2]
   go_enter func115, ntmps115
   go_wp2_with (first | (go_at_call 112; (with_reducible refine Gives.use (zbD a n h2 h3) ?_); intro w1 hb_w1; obtain ⟨hc_w1, hf_w1⟩ := zb2 hb_w1; have hq_w1 := hb_w1.size; (try simp at hq_w1); (try (have hl_w1_w_0 : w.heap.size < w1.heap.size := (by omega); have hm_w1_w_0 := Nat.le_of_lt hl_w1_w_0)); (try (have hl_w1_w_1 : w.heap.size + 1 < w1.heap.size := (by omega); have hm_w1_w_1 := Nat.le_of_lt hl_w1_w_1)); (try (have hl_w1_w_2 : w.heap.size + 2 < w1.heap.size := (by omega); have hm_w1_w_2 := Nat.le_of_lt hl_w1_w_2))) | (go_at_call 112; (with_reducible refine Gives.use (zbD b m h4 h5) ?_); intro w2 hb_w2; obtain ⟨hc_w2, hf_w2⟩ := zb2 hb_w2; have hq_w2 := hb_w2.size; (try simp at hq_w2); (try (have hl_w2_w_0 : w.heap.size < w2.heap.size := (by omega); have hm_w2_w_0 := Nat.le_of_lt hl_w2_w_0)); (try (have hl_w2_w_1 : w.heap.size + 1 < w2.heap.size := (by omega); have hm_w2_w_1 := Nat.le_of_lt hl_w2_w_1)); (try (have hl_w2_w_2 : w.heap.size + 2 < w2.heap.size := (by omega); have hm_w2_w_2 := Nat.le_of_lt hl_w2_w_2)); (try (have hl_w2_w1_0 : w1.heap.size < w2.heap.size := (by omega); have hm_w2_w1_0 := Nat.le_of_lt hl_w2_w1_0)); (try (have hl_w2_w1_1 : w1.heap.size + 1 < w2.heap.size := (by omega); have hm_w2_w1_1 := Nat.le_of_lt hl_w2_w1_1)); (try (have hl_w2_w1_2 : w1.heap.size + 2 < w2.heap.size := (by omega); have hm_w2_w1_2 := Nat.le_of_lt hl_w2_w1_2))))
   have hsz1 := hb_w1.size
   have hsz2 := hb_w2.size
   simp at hsz1
   have HB0 := (((Blk.new w 88 #[.int .u32 a, .int .i64 n]).alloc (Obj.cells #[.int .u32 b, .int .i64 m] 88)).alloc (Obj.cells #[.int .u32 0, .int .i64 0] 88)).below hb_w1 (by first | (simp; done) | omega | (simp; omega)) |>.below hb_w2 (by omega)
   have HB1 : Blk w2 (w.heap.size + 1) 88 #[.int .u32 b, .int .i64 m] := ((by have := (Blk.new (w.alloc (Obj.cells #[.int .u32 a, .int .i64 n] 88)) 88 #[.int .u32 b, .int .i64 m]).alloc (Obj.cells #[.int .u32 0, .int .i64 0] 88); simpa using this : Blk _ (w.heap.size + 1) _ _).below hb_w1 (by first | (simp; done) | omega | (simp; omega))).below hb_w2 (by omega)
   have HB2 : Blk w2 (w.heap.size + 1 + 1) 88 #[.int .u32 0, .int .i64 0] := ((by have := Blk.new ((w.alloc (Obj.cells #[.int .u32 a, .int .i64 n] 88)).alloc (Obj.cells #[.int .u32 b, .int .i64 m] 88)) 88 #[.int .u32 0, .int .i64 0]; simpa using this : Blk _ (w.heap.size + 1 + 1) _ _).below hb_w1 (by first | (simp; done) | omega | (simp; omega))).below hb_w2 (by omega)
   have HBW : Below w.heap.size w w2 := by exact zbC (zbC (by (repeat' (first | exact Below.refl _ _ | assumption | refine zbC ?_ (by assumption) | refine za7 ?_ _ | refine zbI ?_ | refine za6 ?_ _ | refine bset ?_ ?_ _ | (show _ ≤ _; simp; omega) | (simp; done)))) hb_w1) hb_w2
   clear hb_w1 hc_w1 hf_w1 hq_w1 hb_w2 hc_w2 hf_w2 hq_w2
   go_loopw [8] (fun i wr => ∃ k : Int, K ≤ k ∧ k ≤ 32 ∧ i = .int .i64 k ∧ Blk wr w.heap.size 88 #[.int .u32 a, .int .i64 n] ∧ Blk wr (w.heap.size + 1) 88 #[.int .u32 b, .int .i64 m] ∧ Blk wr (w.heap.size + 1 + 1) 88 #[.int .u32 0, .int .i64 0] ∧ Below w.heap.size w wr)
    (fun i _ => (intOf i).toNat)
   case atStart => exact ⟨32, by omega, by omega, rfl, HB0, HB1, HB2, HBW⟩
   case round =>
    obtain ⟨k, hk1, hk2, rfl, R0, R1, R2, RB⟩ := hrel
    clear HB0 HB1 HB2 HBW
    have p0 := R0.cell 0
    have p1 := R0.cell 1
    have q0 := R1.cell 0
    have q1 := R1.cell 1
    have r0 := R2.cell 0
    have r1 := R2.cell 1
    have fr0 := R2.frozen 0
    have fr1 := R2.frozen 1
    have s0 := R0.lt
    have s1 := R1.lt
    have s2 := R2.lt
    simp at p0 p1 q0 q1 r0 r1
    have hk0 : 0 ≤ k := by omega
    have htb := topI_bd a k h2
    have ht0 := htb.1
    have ht1 : topI a k < 4294967296 := by omega
    clear htb
    by_cases h1 : k ≤ n
    ·by_cases h2' : k ≤ m ∧ k ≤ lcp a b
     ·have hkK : k = K := by have := HK.out; omega
      have HkK := Lib.hid hkK
      clear hkK
      have hda : zaY (topI a k) k a n = true := by rw [(HH.out k hk0 hk2).1]; simpa using h1
      have hdb : zaY (topI a k) k b m = true := by rw [(HH.out k hk0 hk2).2.1]; simpa using h2'
      have hoA : ofA a k = topI a k := (HH.out k hk0 hk2).2.2.1
      have hoN : ofN k = k := (HH.out k hk0 hk2).2.2.2
      go_wp2_with (first | (go_at_call 150; (with_reducible refine Gives.use (zfF a k h2 h3) ?_); intro w3 hb_w3; obtain ⟨hc_w3, hf_w3⟩ := zb2 hb_w3; have hq_w3 := hb_w3.size; (try simp at hq_w3); (try (have hl_w3_w_0 : w.heap.size < w3.heap.size := (by omega); have hm_w3_w_0 := Nat.le_of_lt hl_w3_w_0)); (try (have hl_w3_w_1 : w.heap.size + 1 < w3.heap.size := (by omega); have hm_w3_w_1 := Nat.le_of_lt hl_w3_w_1)); (try (have hl_w3_w_2 : w.heap.size + 2 < w3.heap.size := (by omega); have hm_w3_w_2 := Nat.le_of_lt hl_w3_w_2)); (try (have hl_w3_w1_0 : w1.heap.size < w3.heap.size := (by omega); have hm_w3_w1_0 := Nat.le_of_lt hl_w3_w1_0)); (try (have hl_w3_w1_1 : w1.heap.size + 1 < w3.heap.size := (by omega); have hm_w3_w1_1 := Nat.le_of_lt hl_w3_w1_1)); (try (have hl_w3_w1_2 : w1.heap.size + 2 < w3.heap.size := (by omega); have hm_w3_w1_2 := Nat.le_of_lt hl_w3_w1_2))) | (go_at_call 151; (with_reducible refine Gives.use (zdE (topI a k) k a n ht0 ht1 h2 h3) ?_); intro w4 hb_w4; obtain ⟨hc_w4, hf_w4⟩ := zb2 hb_w4; have hq_w4 := hb_w4.size; (try simp at hq_w4); (try (have hl_w4_w_0 : w.heap.size < w4.heap.size := (by omega); have hm_w4_w_0 := Nat.le_of_lt hl_w4_w_0)); (try (have hl_w4_w_1 : w.heap.size + 1 < w4.heap.size := (by omega); have hm_w4_w_1 := Nat.le_of_lt hl_w4_w_1)); (try (have hl_w4_w_2 : w.heap.size + 2 < w4.heap.size := (by omega); have hm_w4_w_2 := Nat.le_of_lt hl_w4_w_2)); (try (have hl_w4_w1_0 : w1.heap.size < w4.heap.size := (by omega); have hm_w4_w1_0 := Nat.le_of_lt hl_w4_w1_0)); (try (have hl_w4_w1_1 : w1.heap.size + 1 < w4.heap.size := (by omega); have hm_w4_w1_1 := Nat.le_of_lt hl_w4_w1_1)); (try (have hl_w4_w1_2 : w1.heap.size + 2 < w4.heap.size := (by omega); have hm_w4_w1_2 := Nat.le_of_lt hl_w4_w1_2)); (try (have hl_w4_w3_0 : w3.heap.size < w4.heap.size := (by omega); have hm_w4_w3_0 := Nat.le_of_lt hl_w4_w3_0)); (try (have hl_w4_w3_1 : w3.heap.size + 1 < w4.heap.size := (by omega); have hm_w4_w3_1 := Nat.le_of_lt hl_w4_w3_1)); (try (have hl_w4_w3_2 : w3.heap.size + 2 < w4.heap.size := (by omega); have hm_w4_w3_2 := Nat.le_of_lt hl_w4_w3_2))) | (go_at_call 151; (with_reducible refine Gives.use (zdE (topI a k) k b m ht0 ht1 h4 h5) ?_); intro w5 hb_w5; obtain ⟨hc_w5, hf_w5⟩ := zb2 hb_w5; have hq_w5 := hb_w5.size; (try simp at hq_w5); (try (have hl_w5_w_0 : w.heap.size < w5.heap.size := (by omega); have hm_w5_w_0 := Nat.le_of_lt hl_w5_w_0)); (try (have hl_w5_w_1 : w.heap.size + 1 < w5.heap.size := (by omega); have hm_w5_w_1 := Nat.le_of_lt hl_w5_w_1)); (try (have hl_w5_w_2 : w.heap.size + 2 < w5.heap.size := (by omega); have hm_w5_w_2 := Nat.le_of_lt hl_w5_w_2)); (try (have hl_w5_w1_0 : w1.heap.size < w5.heap.size := (by omega); have hm_w5_w1_0 := Nat.le_of_lt hl_w5_w1_0)); (try (have hl_w5_w1_1 : w1.heap.size + 1 < w5.heap.size := (by omega); have hm_w5_w1_1 := Nat.le_of_lt hl_w5_w1_1)); (try (have hl_w5_w1_2 : w1.heap.size + 2 < w5.heap.size := (by omega); have hm_w5_w1_2 := Nat.le_of_lt hl_w5_w1_2)); (try (have hl_w5_w3_0 : w3.heap.size < w5.heap.size := (by omega); have hm_w5_w3_0 := Nat.le_of_lt hl_w5_w3_0)); (try (have hl_w5_w3_1 : w3.heap.size + 1 < w5.heap.size := (by omega); have hm_w5_w3_1 := Nat.le_of_lt hl_w5_w3_1)); (try (have hl_w5_w3_2 : w3.heap.size + 2 < w5.heap.size := (by omega); have hm_w5_w3_2 := Nat.le_of_lt hl_w5_w3_2)); (try (have hl_w5_w4_0 : w4.heap.size < w5.heap.size := (by omega); have hm_w5_w4_0 := Nat.le_of_lt hl_w5_w4_0)); (try (have hl_w5_w4_1 : w4.heap.size + 1 < w5.heap.size := (by omega); have hm_w5_w4_1 := Nat.le_of_lt hl_w5_w4_1)); (try (have hl_w5_w4_2 : w4.heap.size + 2 < w5.heap.size := (by omega); have hm_w5_w4_2 := Nat.le_of_lt hl_w5_w4_2))))
      rw [← HkK.out]
      have e0 := (R2.below hb_w3 s2).alloc (Obj.cells #[.int .u32 (topI a k), .int .i64 k] 88) |>.below hb_w4 (by have := hb_w3.size; simp; omega) |>.below hb_w5 (by omega)
      have v0 := e0.cell 0
      have v1 := e0.cell 1
      simp at v0 v1
      exact bodyPost_ret (v := .tuple #[.agg #[.int .u32 (topI a k), .int .i64 k], .int .i64 0]) (by simp [results, Tryz.results115, go_sem, v0, v1]) rfl ⟨rfl, by (repeat' (first | exact Below.refl _ _ | assumption | refine zbC ?_ (by assumption) | refine za7 ?_ _ | refine zbI ?_ | refine za6 ?_ _ | refine bset ?_ ?_ _ | (show _ ≤ _; simp; omega) | (simp; done)))⟩
     ·have hkK : K < k := by have := HK.out; omega
      have hda : zaY (topI a k) k a n = true := by rw [(HH.out k hk0 hk2).1]; simpa using h1
      have hdb : zaY (topI a k) k b m = false := by rw [(HH.out k hk0 hk2).2.1]; simpa using h2'
      have hoA : ofA a k = topI a k := (HH.out k hk0 hk2).2.2.1
      have hoN : ofN k = k := (HH.out k hk0 hk2).2.2.2
      clear h2'
      go_wp2_with (first | (go_at_call 150; (with_reducible refine Gives.use (zfF a k h2 h3) ?_); intro w3 hb_w3; obtain ⟨hc_w3, hf_w3⟩ := zb2 hb_w3; have hq_w3 := hb_w3.size; (try simp at hq_w3); (try (have hl_w3_w_0 : w.heap.size < w3.heap.size := (by omega); have hm_w3_w_0 := Nat.le_of_lt hl_w3_w_0)); (try (have hl_w3_w_1 : w.heap.size + 1 < w3.heap.size := (by omega); have hm_w3_w_1 := Nat.le_of_lt hl_w3_w_1)); (try (have hl_w3_w_2 : w.heap.size + 2 < w3.heap.size := (by omega); have hm_w3_w_2 := Nat.le_of_lt hl_w3_w_2)); (try (have hl_w3_w1_0 : w1.heap.size < w3.heap.size := (by omega); have hm_w3_w1_0 := Nat.le_of_lt hl_w3_w1_0)); (try (have hl_w3_w1_1 : w1.heap.size + 1 < w3.heap.size := (by omega); have hm_w3_w1_1 := Nat.le_of_lt hl_w3_w1_1)); (try (have hl_w3_w1_2 : w1.heap.size + 2 < w3.heap.size := (by omega); have hm_w3_w1_2 := Nat.le_of_lt hl_w3_w1_2))) | (go_at_call 151; (with_reducible refine Gives.use (zdE (topI a k) k a n ht0 ht1 h2 h3) ?_); intro w4 hb_w4; obtain ⟨hc_w4, hf_w4⟩ := zb2 hb_w4; have hq_w4 := hb_w4.size; (try simp at hq_w4); (try (have hl_w4_w_0 : w.heap.size < w4.heap.size := (by omega); have hm_w4_w_0 := Nat.le_of_lt hl_w4_w_0)); (try (have hl_w4_w_1 : w.heap.size + 1 < w4.heap.size := (by omega); have hm_w4_w_1 := Nat.le_of_lt hl_w4_w_1)); (try (have hl_w4_w_2 : w.heap.size + 2 < w4.heap.size := (by omega); have hm_w4_w_2 := Nat.le_of_lt hl_w4_w_2)); (try (have hl_w4_w1_0 : w1.heap.size < w4.heap.size := (by omega); have hm_w4_w1_0 := Nat.le_of_lt hl_w4_w1_0)); (try (have hl_w4_w1_1 : w1.heap.size + 1 < w4.heap.size := (by omega); have hm_w4_w1_1 := Nat.le_of_lt hl_w4_w1_1)); (try (have hl_w4_w1_2 : w1.heap.size + 2 < w4.heap.size := (by omega); have hm_w4_w1_2 := Nat.le_of_lt hl_w4_w1_2)); (try (have hl_w4_w3_0 : w3.heap.size < w4.heap.size := (by omega); have hm_w4_w3_0 := Nat.le_of_lt hl_w4_w3_0)); (try (have hl_w4_w3_1 : w3.heap.size + 1 < w4.heap.size := (by omega); have hm_w4_w3_1 := Nat.le_of_lt hl_w4_w3_1)); (try (have hl_w4_w3_2 : w3.heap.size + 2 < w4.heap.size := (by omega); have hm_w4_w3_2 := Nat.le_of_lt hl_w4_w3_2))) | (go_at_call 151; (with_reducible refine Gives.use (zdE (topI a k) k b m ht0 ht1 h4 h5) ?_); intro w5 hb_w5; obtain ⟨hc_w5, hf_w5⟩ := zb2 hb_w5; have hq_w5 := hb_w5.size; (try simp at hq_w5); (try (have hl_w5_w_0 : w.heap.size < w5.heap.size := (by omega); have hm_w5_w_0 := Nat.le_of_lt hl_w5_w_0)); (try (have hl_w5_w_1 : w.heap.size + 1 < w5.heap.size := (by omega); have hm_w5_w_1 := Nat.le_of_lt hl_w5_w_1)); (try (have hl_w5_w_2 : w.heap.size + 2 < w5.heap.size := (by omega); have hm_w5_w_2 := Nat.le_of_lt hl_w5_w_2)); (try (have hl_w5_w1_0 : w1.heap.size < w5.heap.size := (by omega); have hm_w5_w1_0 := Nat.le_of_lt hl_w5_w1_0)); (try (have hl_w5_w1_1 : w1.heap.size + 1 < w5.heap.size := (by omega); have hm_w5_w1_1 := Nat.le_of_lt hl_w5_w1_1)); (try (have hl_w5_w1_2 : w1.heap.size + 2 < w5.heap.size := (by omega); have hm_w5_w1_2 := Nat.le_of_lt hl_w5_w1_2)); (try (have hl_w5_w3_0 : w3.heap.size < w5.heap.size := (by omega); have hm_w5_w3_0 := Nat.le_of_lt hl_w5_w3_0)); (try (have hl_w5_w3_1 : w3.heap.size + 1 < w5.heap.size := (by omega); have hm_w5_w3_1 := Nat.le_of_lt hl_w5_w3_1)); (try (have hl_w5_w3_2 : w3.heap.size + 2 < w5.heap.size := (by omega); have hm_w5_w3_2 := Nat.le_of_lt hl_w5_w3_2)); (try (have hl_w5_w4_0 : w4.heap.size < w5.heap.size := (by omega); have hm_w5_w4_0 := Nat.le_of_lt hl_w5_w4_0)); (try (have hl_w5_w4_1 : w4.heap.size + 1 < w5.heap.size := (by omega); have hm_w5_w4_1 := Nat.le_of_lt hl_w5_w4_1)); (try (have hl_w5_w4_2 : w4.heap.size + 2 < w5.heap.size := (by omega); have hm_w5_w4_2 := Nat.le_of_lt hl_w5_w4_2))))
      have a3 := hb_w3.size
      have a4 := hb_w4.size
      simp at a4
      go_roundw
      case rel => exact ⟨k - 1, by omega, by omega, rfl, ((R0.below hb_w3 s0).alloc _ |>.below hb_w4 (by first | (simp; done) | omega | (simp; omega)) |>.below hb_w5 (by omega)), ((R1.below hb_w3 s1).alloc _ |>.below hb_w4 (by first | (simp; done) | omega | (simp; omega)) |>.below hb_w5 (by omega)), ((R2.below hb_w3 s2).alloc _ |>.below hb_w4 (by first | (simp; done) | omega | (simp; omega)) |>.below hb_w5 (by omega)), by (repeat' (first | exact Below.refl _ _ | assumption | refine zbC ?_ (by assumption) | refine za7 ?_ _ | refine zbI ?_ | refine za6 ?_ _ | refine bset ?_ ?_ _ | (show _ ≤ _; simp; omega) | (simp; done)))⟩
      case measure => simp [intOf]; omega
    ·have hkK : K < k := by have := HK.out; omega
     have hda : zaY (topI a k) k a n = false := by rw [(HH.out k hk0 hk2).1]; simpa using h1
     have hoA : ofA a k = topI a k := (HH.out k hk0 hk2).2.2.1
     have hoN : ofN k = k := (HH.out k hk0 hk2).2.2.2
     go_wp2_with (first | (go_at_call 150; (with_reducible refine Gives.use (zfF a k h2 h3) ?_); intro w3 hb_w3; obtain ⟨hc_w3, hf_w3⟩ := zb2 hb_w3; have hq_w3 := hb_w3.size; (try simp at hq_w3); (try (have hl_w3_w_0 : w.heap.size < w3.heap.size := (by omega); have hm_w3_w_0 := Nat.le_of_lt hl_w3_w_0)); (try (have hl_w3_w_1 : w.heap.size + 1 < w3.heap.size := (by omega); have hm_w3_w_1 := Nat.le_of_lt hl_w3_w_1)); (try (have hl_w3_w_2 : w.heap.size + 2 < w3.heap.size := (by omega); have hm_w3_w_2 := Nat.le_of_lt hl_w3_w_2)); (try (have hl_w3_w1_0 : w1.heap.size < w3.heap.size := (by omega); have hm_w3_w1_0 := Nat.le_of_lt hl_w3_w1_0)); (try (have hl_w3_w1_1 : w1.heap.size + 1 < w3.heap.size := (by omega); have hm_w3_w1_1 := Nat.le_of_lt hl_w3_w1_1)); (try (have hl_w3_w1_2 : w1.heap.size + 2 < w3.heap.size := (by omega); have hm_w3_w1_2 := Nat.le_of_lt hl_w3_w1_2))) | (go_at_call 151; (with_reducible refine Gives.use (zdE (topI a k) k a n ht0 ht1 h2 h3) ?_); intro w4 hb_w4; obtain ⟨hc_w4, hf_w4⟩ := zb2 hb_w4; have hq_w4 := hb_w4.size; (try simp at hq_w4); (try (have hl_w4_w_0 : w.heap.size < w4.heap.size := (by omega); have hm_w4_w_0 := Nat.le_of_lt hl_w4_w_0)); (try (have hl_w4_w_1 : w.heap.size + 1 < w4.heap.size := (by omega); have hm_w4_w_1 := Nat.le_of_lt hl_w4_w_1)); (try (have hl_w4_w_2 : w.heap.size + 2 < w4.heap.size := (by omega); have hm_w4_w_2 := Nat.le_of_lt hl_w4_w_2)); (try (have hl_w4_w1_0 : w1.heap.size < w4.heap.size := (by omega); have hm_w4_w1_0 := Nat.le_of_lt hl_w4_w1_0)); (try (have hl_w4_w1_1 : w1.heap.size + 1 < w4.heap.size := (by omega); have hm_w4_w1_1 := Nat.le_of_lt hl_w4_w1_1)); (try (have hl_w4_w1_2 : w1.heap.size + 2 < w4.heap.size := (by omega); have hm_w4_w1_2 := Nat.le_of_lt hl_w4_w1_2)); (try (have hl_w4_w3_0 : w3.heap.size < w4.heap.size := (by omega); have hm_w4_w3_0 := Nat.le_of_lt hl_w4_w3_0)); (try (have hl_w4_w3_1 : w3.heap.size + 1 < w4.heap.size := (by omega); have hm_w4_w3_1 := Nat.le_of_lt hl_w4_w3_1)); (try (have hl_w4_w3_2 : w3.heap.size + 2 < w4.heap.size := (by omega); have hm_w4_w3_2 := Nat.le_of_lt hl_w4_w3_2))))
     have a3 := hb_w3.size
     go_roundw
     case rel => exact ⟨k - 1, by omega, by omega, rfl, ((R0.below hb_w3 s0).alloc _ |>.below hb_w4 (by first | (simp; done) | omega | (simp; omega))), ((R1.below hb_w3 s1).alloc _ |>.below hb_w4 (by first | (simp; done) | omega | (simp; omega))), ((R2.below hb_w3 s2).alloc _ |>.below hb_w4 (by first | (simp; done) | omega | (simp; omega))), by (repeat' (first | exact Below.refl _ _ | assumption | refine zbC ?_ (by assumption) | refine za7 ?_ _ | refine zbI ?_ | refine za6 ?_ _ | refine bset ?_ ?_ _ | (show _ ≤ _; simp; omega) | (simp; done)))⟩
     case measure => simp [intOf]; omega
  ·have hd2 : (zai b m != 0) = true := by simp [hg]
   have hE : zcJ a n b m = zai b m := by unfold zcJ; rw [if_pos hf]
   have HX := Lib.hid (show zeE a n b m = 0 ∧ zeD a n b m = 0 ∧ zcJ a n b m = zai b m by
    unfold zeE zeD; rw [hE, if_neg hg, if_neg hg]; exact ⟨rfl, rfl, rfl⟩)
   clear hf hg hE
   rw [HX.out.1, HX.out.2.1, HX.out.2.2]
   go_enter func115, ntmps115
   go_wp2_with (first | (go_at_call 112; (with_reducible refine Gives.use (zbD a n h2 h3) ?_); intro w1 hb_w1; obtain ⟨hc_w1, hf_w1⟩ := zb2 hb_w1; have hq_w1 := hb_w1.size; (try simp at hq_w1); (try (have hl_w1_w_0 : w.heap.size < w1.heap.size := (by omega); have hm_w1_w_0 := Nat.le_of_lt hl_w1_w_0)); (try (have hl_w1_w_1 : w.heap.size + 1 < w1.heap.size := (by omega); have hm_w1_w_1 := Nat.le_of_lt hl_w1_w_1)); (try (have hl_w1_w_2 : w.heap.size + 2 < w1.heap.size := (by omega); have hm_w1_w_2 := Nat.le_of_lt hl_w1_w_2))) | (go_at_call 112; (with_reducible refine Gives.use (zbD b m h4 h5) ?_); intro w2 hb_w2; obtain ⟨hc_w2, hf_w2⟩ := zb2 hb_w2; have hq_w2 := hb_w2.size; (try simp at hq_w2); (try (have hl_w2_w_0 : w.heap.size < w2.heap.size := (by omega); have hm_w2_w_0 := Nat.le_of_lt hl_w2_w_0)); (try (have hl_w2_w_1 : w.heap.size + 1 < w2.heap.size := (by omega); have hm_w2_w_1 := Nat.le_of_lt hl_w2_w_1)); (try (have hl_w2_w_2 : w.heap.size + 2 < w2.heap.size := (by omega); have hm_w2_w_2 := Nat.le_of_lt hl_w2_w_2)); (try (have hl_w2_w1_0 : w1.heap.size < w2.heap.size := (by omega); have hm_w2_w1_0 := Nat.le_of_lt hl_w2_w1_0)); (try (have hl_w2_w1_1 : w1.heap.size + 1 < w2.heap.size := (by omega); have hm_w2_w1_1 := Nat.le_of_lt hl_w2_w1_1)); (try (have hl_w2_w1_2 : w1.heap.size + 2 < w2.heap.size := (by omega); have hm_w2_w1_2 := Nat.le_of_lt hl_w2_w1_2))))
   exact bodyPost_ret (v := .tuple #[.agg #[.int .u32 0, .int .i64 0], .int .i64 (zai b m)]) (by simp [results, Tryz.results115, go_sem, *]) rfl ⟨rfl, by (repeat' (first | exact Below.refl _ _ | assumption | refine zbC ?_ (by assumption) | refine za7 ?_ _ | refine zbI ?_ | refine za6 ?_ _ | refine bset ?_ ?_ _ | (show _ ≤ _; simp; omega) | (simp; done)))⟩
 ·have hd : (zai a n != 0) = true := by simp [hf]
  have hE : zcJ a n b m = zai a n := by unfold zcJ; rw [if_neg hf]
  have HX := Lib.hid (show zeE a n b m = 0 ∧ zeD a n b m = 0 ∧ zcJ a n b m = zai a n by
   unfold zeE zeD; rw [hE, if_neg hf, if_neg hf]; exact ⟨rfl, rfl, rfl⟩)
  clear hf hE
  rw [HX.out.1, HX.out.2.1, HX.out.2.2]
  go_enter func115, ntmps115
  go_wp2_with (first | (go_at_call 112; (with_reducible refine Gives.use (zbD a n h2 h3) ?_); intro w1 hb_w1; obtain ⟨hc_w1, hf_w1⟩ := zb2 hb_w1; have hq_w1 := hb_w1.size; (try simp at hq_w1); (try (have hl_w1_w_0 : w.heap.size < w1.heap.size := (by omega); have hm_w1_w_0 := Nat.le_of_lt hl_w1_w_0)); (try (have hl_w1_w_1 : w.heap.size + 1 < w1.heap.size := (by omega); have hm_w1_w_1 := Nat.le_of_lt hl_w1_w_1)); (try (have hl_w1_w_2 : w.heap.size + 2 < w1.heap.size := (by omega); have hm_w1_w_2 := Nat.le_of_lt hl_w1_w_2))))
  exact bodyPost_ret (v := .tuple #[.agg #[.int .u32 0, .int .i64 0], .int .i64 (zai a n)]) (by simp [results, Tryz.results115, go_sem, *]) rfl ⟨rfl, by (repeat' (first | exact Below.refl _ _ | assumption | refine zbC ?_ (by assumption) | refine za7 ?_ _ | refine zbI ?_ | refine za6 ?_ _ | refine bset ?_ ?_ _ | (show _ ≤ _; simp; omega) | (simp; done)))⟩
end Go.Proofs.YtbjdjclkbjpebaaGreatDoor
