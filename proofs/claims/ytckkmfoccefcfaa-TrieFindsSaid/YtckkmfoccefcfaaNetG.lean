/- What Join of package net computes. -/
import Derived.Test.YtckkmfoccefcfaaNetF
import Derived.Test.YtckkmfoccefcfaaShelf
import Derived.WalkLawsBesides
namespace Go.Proofs.Ytckkmfoccefcfaa
open Go.RowKit Go.Sort
set_option linter.unusedVariables false

theorem lz_g (x : Int) (h0 : 0 ≤ x) (h1 : x ≤ 4294967295) : Gives Try.prog 126 #[.int .u32 x] (.int .i64 (32 - (Lib.bitLen x.toNat : Int))) :=
  fun w => (Try.bits_LeadingZeros32 x w h0 h1).mono fun _ _ h => ⟨h.1, h.2 ▸ Below.refl _ _⟩

theorem lcp_g (a b : Int) (h2 : 0 ≤ a) (h3 : a < 4294967296) (h4 : 0 ≤ b) (h5 : b < 4294967296) : Gives Try.prog 126 #[.int .u32 (bits .xor .u32 a b)] (.int .i64 (lcp a b)) := by
  have hx : bits .xor .u32 a b = ((a.toNat ^^^ b.toNat : Nat) : Int) := u32_xor a b h2 h3 h4 h5
  have hxlt : a.toNat ^^^ b.toNat < 2 ^ 32 := Nat.xor_lt_two_pow (by omega) (by omega)
  rw [hx]
  exact lz_g _ (by omega) (by omega)

theorem ix0 (a n b m : Int) : ∀ w, (Instr.index 143 (.agg #[.int .u32 a, .int .i64 n, .int .u32 b, .int .i64 m]) (.int .i64 0)).run Try.prog w = .ok (.agg #[.int .u32 a, .int .i64 n]) w := fun _ => by kernel_rfl
theorem ix1 (a n b m : Int) : ∀ w, (Instr.index 143 (.agg #[.int .u32 a, .int .i64 n, .int .u32 b, .int .i64 m]) (.int .i64 1)).run Try.prog w = .ok (.agg #[.int .u32 b, .int .i64 m]) w := fun _ => by kernel_rfl

set_option maxHeartbeats 2000000 in
theorem join_g (a n b m : Int) (h2 : 0 ≤ a) (h3 : a < 4294967296) (h4 : 0 ≤ b) (h5 : b < 4294967296) :
    Gives Try.prog 103 #[.agg #[.int .u32 a, .int .i64 n], .agg #[.int .u32 b, .int .i64 m]] (.tuple #[.agg #[.int .u32 (joinA a n b m), .int .i64 (joinN a n b m)], .int .i64 (joinE a n b m)]) := by
  intro w
  have i0 := ix0 a n b m
  have i1 := ix1 a n b m
  by_cases hf : netFault a n = 0
  · have hd : (netFault a n != 0) = false := by simp [hf]
    by_cases hg : netFault b m = 0
    · have hd2 : (netFault b m != 0) = false := by simp [hg]
      have hE : joinE a n b m = 0 := by unfold joinE; rw [if_pos hf]; exact hg
      have hn := netFault_ok hf
      have hm := netFault_ok hg
      have hl := lcp_bd a b h2 h3 h4 h5
      have HX := Lib.hid (show joinA a n b m = ofA a (min (min n m) (lcp a b)) ∧ joinN a n b m = ofN (min (min n m) (lcp a b)) ∧ joinE a n b m = ofE (min (min n m) (lcp a b)) by
        have hk : ¬ (min (min n m) (lcp a b) < 0 ∨ 32 < min (min n m) (lcp a b)) := by omega
        unfold joinA joinN ofA ofN ofE
        rw [if_pos hE, if_pos hE, if_neg hk, if_neg hk, if_neg hk]
        exact ⟨rfl, rfl, hE⟩)
      have hn0 := hn.1
      have hn1 := hn.2.1
      have hm0 := hm.1
      have hm1 := hm.2.1
      have hl0 := hl.1
      have hl1 := hl.2
      clear hf hg hE hn hm hl
      rw [HX.out.1, HX.out.2.1, HX.out.2.2]
      go_enter Try.func103, Try.ntmps103
      go_wp2_with fail
      refine wp_loop_rounds 3 ?_
      rw [rounds_succ]
      go_wp2_with (first | (go_at_call 45; (with_reducible refine Gives.use (check_g a n h2 h3) ?_); intro w1 hb_w1; obtain ⟨hc_w1, hf_w1⟩ := bcell hb_w1; have hq_w1 := hb_w1.size; (try simp at hq_w1); (try (have hl_w1_w_0 : w.heap.size < w1.heap.size := (by omega); have hm_w1_w_0 := Nat.le_of_lt hl_w1_w_0)); (try (have hl_w1_w_1 : w.heap.size + 1 < w1.heap.size := (by omega); have hm_w1_w_1 := Nat.le_of_lt hl_w1_w_1)); (try (have hl_w1_w_2 : w.heap.size + 2 < w1.heap.size := (by omega); have hm_w1_w_2 := Nat.le_of_lt hl_w1_w_2))))
      rw [rounds_succ]
      go_wp2_with (first | (go_at_call 45; (with_reducible refine Gives.use (check_g b m h4 h5) ?_); intro w2 hb_w2; obtain ⟨hc_w2, hf_w2⟩ := bcell hb_w2; have hq_w2 := hb_w2.size; (try simp at hq_w2); (try (have hl_w2_w_0 : w.heap.size < w2.heap.size := (by omega); have hm_w2_w_0 := Nat.le_of_lt hl_w2_w_0)); (try (have hl_w2_w_1 : w.heap.size + 1 < w2.heap.size := (by omega); have hm_w2_w_1 := Nat.le_of_lt hl_w2_w_1)); (try (have hl_w2_w_2 : w.heap.size + 2 < w2.heap.size := (by omega); have hm_w2_w_2 := Nat.le_of_lt hl_w2_w_2)); (try (have hl_w2_w1_0 : w1.heap.size < w2.heap.size := (by omega); have hm_w2_w1_0 := Nat.le_of_lt hl_w2_w1_0)); (try (have hl_w2_w1_1 : w1.heap.size + 1 < w2.heap.size := (by omega); have hm_w2_w1_1 := Nat.le_of_lt hl_w2_w1_1)); (try (have hl_w2_w1_2 : w1.heap.size + 2 < w2.heap.size := (by omega); have hm_w2_w1_2 := Nat.le_of_lt hl_w2_w1_2))))
      rw [rounds_succ]
      go_wp2_with fail
      have hcq := grow_cell w2
      (refine wp_quietb_tail 16 (by kernel_rfl) (by kernel_rfl) ?_; simp only [List.take_succ_cons, List.take_zero, List.drop_succ_cons, List.drop_zero]; (repeat (first | go_big_quiet_step ((first | (go_at_call 126; exact (lcp_g a b h2 h3 h4 h5).q) | (go_at_call 125; exact (of_g a _ h2 h3).q))) | quiet_step ((first | (go_at_call 126; exact (lcp_g a b h2 h3 h4 h5).q) | (go_at_call 125; exact (of_g a _ h2 h3).q))))); refine wpQuiet_nil ?_)
      intro w3 hb_w3
      clear hcq
      (obtain ⟨hc_w3, hf_w3⟩ := bcell hb_w3; have hq_w3 := hb_w3.size; (try simp at hq_w3); (try (have hl_w3_w_0 : w.heap.size < w3.heap.size := (by omega); have hm_w3_w_0 := Nat.le_of_lt hl_w3_w_0)); (try (have hl_w3_w_1 : w.heap.size + 1 < w3.heap.size := (by omega); have hm_w3_w_1 := Nat.le_of_lt hl_w3_w_1)); (try (have hl_w3_w_2 : w.heap.size + 2 < w3.heap.size := (by omega); have hm_w3_w_2 := Nat.le_of_lt hl_w3_w_2)); (try (have hl_w3_w1_0 : w1.heap.size < w3.heap.size := (by omega); have hm_w3_w1_0 := Nat.le_of_lt hl_w3_w1_0)); (try (have hl_w3_w1_1 : w1.heap.size + 1 < w3.heap.size := (by omega); have hm_w3_w1_1 := Nat.le_of_lt hl_w3_w1_1)); (try (have hl_w3_w1_2 : w1.heap.size + 2 < w3.heap.size := (by omega); have hm_w3_w1_2 := Nat.le_of_lt hl_w3_w1_2)); (try (have hl_w3_w2_0 : w2.heap.size < w3.heap.size := (by omega); have hm_w3_w2_0 := Nat.le_of_lt hl_w3_w2_0)); (try (have hl_w3_w2_1 : w2.heap.size + 1 < w3.heap.size := (by omega); have hm_w3_w2_1 := Nat.le_of_lt hl_w3_w2_1)); (try (have hl_w3_w2_2 : w2.heap.size + 2 < w3.heap.size := (by omega); have hm_w3_w2_2 := Nat.le_of_lt hl_w3_w2_2)))
      go_wp2
      all_goals
        first
          | (rw [show min n (min m (lcp a b)) = n by omega]; exact bodyPost_ret (v := .tuple #[.agg #[.int .u32 (ofA a n), .int .i64 (ofN n)], .int .i64 (ofE n)]) (by simp [results, Try.results103, go_sem, *]) rfl ⟨rfl, by (repeat' (first | exact Below.refl _ _ | assumption | refine bstep ?_ (by assumption) | refine balloc ?_ _ | refine bdrew ?_ | refine bdrewN ?_ _ | refine bset ?_ ?_ _ | (show _ ≤ _; simp; omega) | (simp; done)))⟩)
          | (rw [show min n (min m (lcp a b)) = m by omega]; exact bodyPost_ret (v := .tuple #[.agg #[.int .u32 (ofA a m), .int .i64 (ofN m)], .int .i64 (ofE m)]) (by simp [results, Try.results103, go_sem, *]) rfl ⟨rfl, by (repeat' (first | exact Below.refl _ _ | assumption | refine bstep ?_ (by assumption) | refine balloc ?_ _ | refine bdrew ?_ | refine bdrewN ?_ _ | refine bset ?_ ?_ _ | (show _ ≤ _; simp; omega) | (simp; done)))⟩)
          | (rw [show min n (min m (lcp a b)) = lcp a b by omega]; exact bodyPost_ret (v := .tuple #[.agg #[.int .u32 (ofA a (lcp a b)), .int .i64 (ofN (lcp a b))], .int .i64 (ofE (lcp a b))]) (by simp [results, Try.results103, go_sem, *]) rfl ⟨rfl, by (repeat' (first | exact Below.refl _ _ | assumption | refine bstep ?_ (by assumption) | refine balloc ?_ _ | refine bdrew ?_ | refine bdrewN ?_ _ | refine bset ?_ ?_ _ | (show _ ≤ _; simp; omega) | (simp; done)))⟩)
    · have hd2 : (netFault b m != 0) = true := by simp [hg]
      have hE : joinE a n b m = netFault b m := by unfold joinE; rw [if_pos hf]
      have HX := Lib.hid (show joinA a n b m = 0 ∧ joinN a n b m = 0 ∧ joinE a n b m = netFault b m by
        unfold joinA joinN; rw [hE, if_neg hg, if_neg hg]; exact ⟨rfl, rfl, rfl⟩)
      clear hf hg hE
      rw [HX.out.1, HX.out.2.1, HX.out.2.2]
      go_enter Try.func103, Try.ntmps103
      go_wp2_with fail
      refine wp_loop_rounds 3 ?_
      rw [rounds_succ]
      go_wp2_with (first | (go_at_call 45; (with_reducible refine Gives.use (check_g a n h2 h3) ?_); intro w1 hb_w1; obtain ⟨hc_w1, hf_w1⟩ := bcell hb_w1; have hq_w1 := hb_w1.size; (try simp at hq_w1); (try (have hl_w1_w_0 : w.heap.size < w1.heap.size := (by omega); have hm_w1_w_0 := Nat.le_of_lt hl_w1_w_0)); (try (have hl_w1_w_1 : w.heap.size + 1 < w1.heap.size := (by omega); have hm_w1_w_1 := Nat.le_of_lt hl_w1_w_1)); (try (have hl_w1_w_2 : w.heap.size + 2 < w1.heap.size := (by omega); have hm_w1_w_2 := Nat.le_of_lt hl_w1_w_2))))
      rw [rounds_succ]
      go_wp2_with (first | (go_at_call 45; (with_reducible refine Gives.use (check_g b m h4 h5) ?_); intro w2 hb_w2; obtain ⟨hc_w2, hf_w2⟩ := bcell hb_w2; have hq_w2 := hb_w2.size; (try simp at hq_w2); (try (have hl_w2_w_0 : w.heap.size < w2.heap.size := (by omega); have hm_w2_w_0 := Nat.le_of_lt hl_w2_w_0)); (try (have hl_w2_w_1 : w.heap.size + 1 < w2.heap.size := (by omega); have hm_w2_w_1 := Nat.le_of_lt hl_w2_w_1)); (try (have hl_w2_w_2 : w.heap.size + 2 < w2.heap.size := (by omega); have hm_w2_w_2 := Nat.le_of_lt hl_w2_w_2)); (try (have hl_w2_w1_0 : w1.heap.size < w2.heap.size := (by omega); have hm_w2_w1_0 := Nat.le_of_lt hl_w2_w1_0)); (try (have hl_w2_w1_1 : w1.heap.size + 1 < w2.heap.size := (by omega); have hm_w2_w1_1 := Nat.le_of_lt hl_w2_w1_1)); (try (have hl_w2_w1_2 : w1.heap.size + 2 < w2.heap.size := (by omega); have hm_w2_w1_2 := Nat.le_of_lt hl_w2_w1_2))))
      exact bodyPost_ret (v := .tuple #[.agg #[.int .u32 0, .int .i64 0], .int .i64 (netFault b m)]) (by simp [results, Try.results103, go_sem, *]) rfl ⟨rfl, by (repeat' (first | exact Below.refl _ _ | assumption | refine bstep ?_ (by assumption) | refine balloc ?_ _ | refine bdrew ?_ | refine bdrewN ?_ _ | refine bset ?_ ?_ _ | (show _ ≤ _; simp; omega) | (simp; done)))⟩
  · have hd : (netFault a n != 0) = true := by simp [hf]
    have hE : joinE a n b m = netFault a n := by unfold joinE; rw [if_neg hf]
    have HX := Lib.hid (show joinA a n b m = 0 ∧ joinN a n b m = 0 ∧ joinE a n b m = netFault a n by
      unfold joinA joinN; rw [hE, if_neg hf, if_neg hf]; exact ⟨rfl, rfl, rfl⟩)
    clear hf hE
    rw [HX.out.1, HX.out.2.1, HX.out.2.2]
    go_enter Try.func103, Try.ntmps103
    go_wp2_with fail
    refine wp_loop_rounds 3 ?_
    rw [rounds_succ]
    go_wp2_with (first | (go_at_call 45; (with_reducible refine Gives.use (check_g a n h2 h3) ?_); intro w1 hb_w1; obtain ⟨hc_w1, hf_w1⟩ := bcell hb_w1; have hq_w1 := hb_w1.size; (try simp at hq_w1); (try (have hl_w1_w_0 : w.heap.size < w1.heap.size := (by omega); have hm_w1_w_0 := Nat.le_of_lt hl_w1_w_0)); (try (have hl_w1_w_1 : w.heap.size + 1 < w1.heap.size := (by omega); have hm_w1_w_1 := Nat.le_of_lt hl_w1_w_1)); (try (have hl_w1_w_2 : w.heap.size + 2 < w1.heap.size := (by omega); have hm_w1_w_2 := Nat.le_of_lt hl_w1_w_2))))
    exact bodyPost_ret (v := .tuple #[.agg #[.int .u32 0, .int .i64 0], .int .i64 (netFault a n)]) (by simp [results, Try.results103, go_sem, *]) rfl ⟨rfl, by (repeat' (first | exact Below.refl _ _ | assumption | refine bstep ?_ (by assumption) | refine balloc ?_ _ | refine bdrew ?_ | refine bdrewN ?_ _ | refine bset ?_ ?_ _ | (show _ ≤ _; simp; omega) | (simp; done)))⟩
end Go.Proofs.Ytckkmfoccefcfaa
