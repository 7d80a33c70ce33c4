/- What NetOf, NetHas, NetHolds of the reference compute: contracts. -/
import Derived.Test.YtckkmfoccefcfaaNetB
import Derived.Test.YtckkmfoccefcfaaQTail
import Derived.Test.YtckkmfoccefcfaaEql
namespace Go.Proofs.Ytckkmfoccefcfaa
open Go.RowKit Go.Sort

set_option maxHeartbeats 1000000 in
theorem refOf_g (a n : Int) (h2 : 0 ≤ a) (h3 : a < 4294967296) :
    Gives Try.prog 102 #[.int .u32 a, .int .i64 n] (.tuple #[.agg #[.int .u32 (ofA a n), .int .i64 (ofN n)], .int .i64 (ofE n)]) := by
  intro w
  by_cases hn : n < 0 ∨ 32 < n
  · have HF := Lib.hid (show ofA a n = 0 ∧ ofN n = 0 ∧ ofE n = 4 by unfold ofA ofN ofE; rw [if_pos hn, if_pos hn, if_pos hn]; exact ⟨rfl, rfl, rfl⟩)
    rcases (show n < 0 ∨ (0 ≤ n ∧ 32 < n) by omega) with h | ⟨ha, hb⟩
    all_goals
      clear hn
      go_enter Try.func102, Try.ntmps102
      go_wp2_with fail
      rw [HF.out.1, HF.out.2.1, HF.out.2.2]
      exact bodyPost_ret (v := .tuple #[.agg #[.int .u32 0, .int .i64 0], .int .i64 4]) (by simp [results, Try.results102, go_sem]) rfl ⟨rfl, by (repeat' (first | exact Below.refl _ _ | assumption | refine bstep ?_ (by assumption) | refine balloc ?_ _ | refine bdrew ?_ | refine bdrewN ?_ _ | refine bset ?_ ?_ _ | (show _ ≤ _; simp; omega) | (simp; done)))⟩
  · have ha : 0 ≤ n := by omega
    have hb : n ≤ 32 := by omega
    have HF := Lib.hid (show ofA a n = topI a n ∧ ofN n = n ∧ ofE n = 0 by unfold ofA ofN ofE; rw [if_neg hn, if_neg hn, if_neg hn]; exact ⟨rfl, rfl, rfl⟩)
    clear hn
    rw [HF.out.1, HF.out.2.1, HF.out.2.2]
    go_enter Try.func102, Try.ntmps102
    go_wp2_with fail
    go_loopw [7] (fun i wr => ∃ k : Int, 0 ≤ k ∧ k ≤ n ∧ i = .int .i64 k ∧ Blk wr (w.heap.size + 1) 36 #[.int .u32 (topI a k), .int .i64 n] ∧ Blk wr w.heap.size 36 #[.int .u32 0, .int .i64 0] ∧ Below w.heap.size w wr)
      (fun i _ => (32 - intOf i).toNat)
    case atStart =>
      refine ⟨0, by omega, by omega, rfl, ?_, (Blk.new w _ _).alloc _, by (repeat' (first | exact Below.refl _ _ | assumption | refine bstep ?_ (by assumption) | refine balloc ?_ _ | refine bdrew ?_ | refine bdrewN ?_ _ | refine bset ?_ ?_ _ | (show _ ≤ _; simp; omega) | (simp; done)))⟩
      have e0 : topI a 0 = 0 := by
        unfold topI
        have : a % 2 ^ (32 - (0 : Int)).toNat = a := Int.emod_eq_of_lt h2 h3
        omega
      rw [e0]
      exact by have := Blk.new (w.alloc (Obj.cells #[.int .u32 0, .int .i64 0] 36)) 36 #[.int .u32 0, .int .i64 n]; simpa using this
    case round =>
      obtain ⟨k, hk1, hk2, rfl, HB1, HB0, HBW⟩ := hrel
      have hx0 := HB1.cell 0
      have hx1 := HB1.cell 1
      have hfz := HB1.frozen 0
      have hy0 := HB0.frozen 0
      have hy1 := HB0.frozen 1
      have hyc0 := HB0.cell 0
      have hyc1 := HB0.cell 1
      have hsz := HB1.lt
      simp at hx0 hx1 hyc0 hyc1
      by_cases hlt : k < n
      · have h31 : k ≤ 31 := by omega
        have HL := Lib.hid (topI_step a k hk1 h31 h2)
        go_wp2_with fail
        have e31 : IntKind.i64.wrap (31 - k) = 31 - k := IntWalk.i64_in _ (by omega)
        have e31' : 0 ≤ 31 - k := by omega
        have hcq := grow_cell wr
        (refine wp_quietb_tail 10 (by kernel_rfl) (by kernel_rfl) ?_; simp only [List.take_succ_cons, List.take_zero, List.drop_succ_cons, List.drop_zero]; (repeat (first | go_big_quiet_step ((first | (go_at_call 100; exact Gives.q (fun w => (bit_c a k w hk1 h31 h2 h3).mono fun _ _ h => ⟨h.1, h.2 ▸ Below.refl _ _⟩)))) | quiet_step ((first | (go_at_call 100; exact Gives.q (fun w => (bit_c a k w hk1 h31 h2 h3).mono fun _ _ h => ⟨h.1, h.2 ▸ Below.refl _ _⟩)))))); refine wpQuiet_nil ?_)
        intro w1 hb1
        clear e31 hcq
        obtain ⟨hc1, hf1⟩ := bcell hb1
        go_wp2
        go_roundw
        case rel =>
          have hv : (topI a k + bitI a k * 2 ^ (31 - k).toNat) % 4294967296 = topI a (k + 1) := by
            have hbd := topI_bd a (k + 1) h2
            have hl := HL.out
            rw [← hl]
            omega
          rw [hv]
          refine ⟨k + 1, by omega, by omega, rfl, ?_, ?_, bset (bstep HBW hb1) (by show w.heap.size ≤ w.heap.size + 1; omega) _⟩
          · exact (HB1.below hb1 hsz).set_ 0 _
          · exact (HB0.below hb1 (by omega)).far (by show _ ≠ _; simp) _
        case measure => simp [intOf]; omega
      · obtain rfl : k = n := by omega
        have HB2 := (HB0.set_ 0 (.int .u32 (topI a k))).set_ 1 (.int .i64 k)
        have q0 := HB2.cell 0
        have q1 := HB2.cell 1
        simp at q0 q1
        go_wp2
        exact bodyPost_ret (v := .tuple #[.agg #[.int .u32 (topI a k), .int .i64 k], .int .i64 0]) (by simp [results, Try.results102, go_sem, q0, q1]) rfl ⟨rfl, by (repeat' (first | exact Below.refl _ _ | assumption | refine bstep ?_ (by assumption) | refine balloc ?_ _ | refine bdrew ?_ | refine bdrewN ?_ _ | refine bset ?_ ?_ _ | (show _ ≤ _; simp; omega) | (simp; done)))⟩

theorem refFault_g' (a n : Int) (h2 : 0 ≤ a) (h3 : a < 4294967296) : Gives Try.prog 47 #[.agg #[.int .u32 a, .int .i64 n]] (.int .i64 (netFault a n)) := refFault_g a n h2 h3

theorem ofE_of {a n : Int} (h : netFault a n = 0) (x : Int) : ofE n = 0 ∧ ofN n = n ∧ ofA x n = topI x n := by
  have hk := netFault_ok h
  unfold ofE ofN ofA
  have hn : ¬ (n < 0 ∨ 32 < n) := by omega
  rw [if_neg hn, if_neg hn, if_neg hn]
  exact ⟨rfl, rfl, rfl⟩

set_option maxRecDepth 20000 in
set_option maxHeartbeats 1000000 in
theorem refHas_g (a n x : Int) (h2 : 0 ≤ a) (h3 : a < 4294967296) (h4 : 0 ≤ x) (h5 : x < 4294967296) :
    Gives Try.prog 53 #[.agg #[.int .u32 a, .int .i64 n], .int .u32 x] (.bool (netHas a n x)) := by
  intro w
  by_cases hf : netFault a n = 0
  · have HE := Lib.hid (show netHas a n x = (ofA x n == a && ofN n == n) by
      rw [Bool.eq_iff_iff]; unfold netHas; have := ofE_of hf x; simp [hf, this])
    have hd : (netFault a n == 0) = true := by simp [hf]
    have hd2 : (ofE n == 0) = true := by simp [(ofE_of hf x).1]
    clear hf
    go_enter Try.func53, Try.ntmps53
    go_wp2_with (first | (go_at_call 102; (with_reducible refine Gives.use (refOf_g x n h4 h5) ?_); intro w1 hb_w1; obtain ⟨hc_w1, hf_w1⟩ := bcell hb_w1; have hq_w1 := hb_w1.size; (try simp at hq_w1); (try (have hl_w1_w_0 : w.heap.size < w1.heap.size := (by omega); have hm_w1_w_0 := Nat.le_of_lt hl_w1_w_0))) | (go_at_call 47; (with_reducible refine Gives.use (refFault_g a n h2 h3) ?_); intro w2 hb_w2; obtain ⟨hc_w2, hf_w2⟩ := bcell hb_w2; have hq_w2 := hb_w2.size; (try simp at hq_w2); (try (have hl_w2_w_0 : w.heap.size < w2.heap.size := (by omega); have hm_w2_w_0 := Nat.le_of_lt hl_w2_w_0)); (try (have hl_w2_w1_0 : w1.heap.size < w2.heap.size := (by omega); have hm_w2_w1_0 := Nat.le_of_lt hl_w2_w1_0))))
    all_goals (go_ret; exact ⟨ret_bool (by rw [HE.out]; simp [*]), by (repeat' (first | exact Below.refl _ _ | assumption | refine bstep ?_ (by assumption) | refine balloc ?_ _ | refine bdrew ?_ | refine bdrewN ?_ _ | refine bset ?_ ?_ _ | (show _ ≤ _; simp; omega) | (simp; done)))⟩)
  · have HE := Lib.hid (show netHas a n x = false by unfold netHas; simp [hf])
    have hd : (netFault a n == 0) = false := by simp [hf]
    clear hf
    by_cases hE : ofE n = 0
    · have hd2 : (ofE n == 0) = true := by simp [hE]
      clear hE
      go_enter Try.func53, Try.ntmps53
      go_wp2_with (first | (go_at_call 102; (with_reducible refine Gives.use (refOf_g x n h4 h5) ?_); intro w1 hb_w1; obtain ⟨hc_w1, hf_w1⟩ := bcell hb_w1; have hq_w1 := hb_w1.size; (try simp at hq_w1); (try (have hl_w1_w_0 : w.heap.size < w1.heap.size := (by omega); have hm_w1_w_0 := Nat.le_of_lt hl_w1_w_0))) | (go_at_call 47; (with_reducible refine Gives.use (refFault_g a n h2 h3) ?_); intro w2 hb_w2; obtain ⟨hc_w2, hf_w2⟩ := bcell hb_w2; have hq_w2 := hb_w2.size; (try simp at hq_w2); (try (have hl_w2_w_0 : w.heap.size < w2.heap.size := (by omega); have hm_w2_w_0 := Nat.le_of_lt hl_w2_w_0)); (try (have hl_w2_w1_0 : w1.heap.size < w2.heap.size := (by omega); have hm_w2_w1_0 := Nat.le_of_lt hl_w2_w1_0))))
      go_ret
      exact ⟨ret_bool HE.out.symm, by (repeat' (first | exact Below.refl _ _ | assumption | refine bstep ?_ (by assumption) | refine balloc ?_ _ | refine bdrew ?_ | refine bdrewN ?_ _ | refine bset ?_ ?_ _ | (show _ ≤ _; simp; omega) | (simp; done)))⟩
    · have hd2 : (ofE n == 0) = false := by simp [hE]
      clear hE
      go_enter Try.func53, Try.ntmps53
      go_wp2_with (first | (go_at_call 102; (with_reducible refine Gives.use (refOf_g x n h4 h5) ?_); intro w1 hb_w1; obtain ⟨hc_w1, hf_w1⟩ := bcell hb_w1; have hq_w1 := hb_w1.size; (try simp at hq_w1); (try (have hl_w1_w_0 : w.heap.size < w1.heap.size := (by omega); have hm_w1_w_0 := Nat.le_of_lt hl_w1_w_0))))
      go_ret
      exact ⟨ret_bool HE.out.symm, by (repeat' (first | exact Below.refl _ _ | assumption | refine bstep ?_ (by assumption) | refine balloc ?_ _ | refine bdrew ?_ | refine bdrewN ?_ _ | refine bset ?_ ?_ _ | (show _ ≤ _; simp; omega) | (simp; done)))⟩

theorem refHolds_g (a n b m : Int) (h2 : 0 ≤ a) (h3 : a < 4294967296) (h4 : 0 ≤ b) (h5 : b < 4294967296) :
    Gives Try.prog 124 #[.agg #[.int .u32 a, .int .i64 n], .agg #[.int .u32 b, .int .i64 m]] (.bool (netHolds a n b m)) := by
  intro w
  by_cases hf : netFault b m = 0
  · have hd : (netFault b m == 0) = true := by simp [hf]
    by_cases hle : n ≤ m
    · have HE := Lib.hid (show netHolds a n b m = netHas a n b by unfold netHolds; simp [hf, hle])
      clear hf
      go_enter Try.func124, Try.ntmps124
      go_wp2_with (first | (go_at_call 47; (with_reducible refine Gives.use (refFault_g b m h4 h5) ?_); intro w1 hb_w1; obtain ⟨hc_w1, hf_w1⟩ := bcell hb_w1; have hq_w1 := hb_w1.size; (try simp at hq_w1); (try (have hl_w1_w_0 : w.heap.size < w1.heap.size := (by omega); have hm_w1_w_0 := Nat.le_of_lt hl_w1_w_0)); (try (have hl_w1_w_1 : w.heap.size + 1 < w1.heap.size := (by omega); have hm_w1_w_1 := Nat.le_of_lt hl_w1_w_1))) | (go_at_call 53; (with_reducible refine Gives.use (refHas_g a n b h2 h3 h4 h5) ?_); intro w2 hb_w2; obtain ⟨hc_w2, hf_w2⟩ := bcell hb_w2; have hq_w2 := hb_w2.size; (try simp at hq_w2)))
      go_ret
      exact ⟨ret_bool HE.out.symm, by (repeat' (first | exact Below.refl _ _ | assumption | refine bstep ?_ (by assumption) | refine balloc ?_ _ | refine bdrew ?_ | refine bdrewN ?_ _ | refine bset ?_ ?_ _ | (show _ ≤ _; simp; omega) | (simp; done)))⟩
    · have HE := Lib.hid (show netHolds a n b m = false by unfold netHolds; simp [hle])
      clear hf
      go_enter Try.func124, Try.ntmps124
      go_wp2_with (first | (go_at_call 47; (with_reducible refine Gives.use (refFault_g b m h4 h5) ?_); intro w1 hb_w1; obtain ⟨hc_w1, hf_w1⟩ := bcell hb_w1; have hq_w1 := hb_w1.size; (try simp at hq_w1); (try (have hl_w1_w_0 : w.heap.size < w1.heap.size := (by omega); have hm_w1_w_0 := Nat.le_of_lt hl_w1_w_0)); (try (have hl_w1_w_1 : w.heap.size + 1 < w1.heap.size := (by omega); have hm_w1_w_1 := Nat.le_of_lt hl_w1_w_1))))
      go_ret
      exact ⟨ret_bool HE.out.symm, by (repeat' (first | exact Below.refl _ _ | assumption | refine bstep ?_ (by assumption) | refine balloc ?_ _ | refine bdrew ?_ | refine bdrewN ?_ _ | refine bset ?_ ?_ _ | (show _ ≤ _; simp; omega) | (simp; done)))⟩
  · have hd : (netFault b m == 0) = false := by simp [hf]
    have HE := Lib.hid (show netHolds a n b m = false by unfold netHolds; simp [hf])
    clear hf
    go_enter Try.func124, Try.ntmps124
    go_wp2_with (first | (go_at_call 47; (with_reducible refine Gives.use (refFault_g b m h4 h5) ?_); intro w1 hb_w1; obtain ⟨hc_w1, hf_w1⟩ := bcell hb_w1; have hq_w1 := hb_w1.size; (try simp at hq_w1); (try (have hl_w1_w_0 : w.heap.size < w1.heap.size := (by omega); have hm_w1_w_0 := Nat.le_of_lt hl_w1_w_0)); (try (have hl_w1_w_1 : w.heap.size + 1 < w1.heap.size := (by omega); have hm_w1_w_1 := Nat.le_of_lt hl_w1_w_1))))
    go_ret
    exact ⟨ret_bool HE.out.symm, by (repeat' (first | exact Below.refl _ _ | assumption | refine bstep ?_ (by assumption) | refine balloc ?_ _ | refine bdrew ?_ | refine bdrewN ?_ _ | refine bset ?_ ?_ _ | (show _ ≤ _; simp; omega) | (simp; done)))⟩
end Go.Proofs.Ytckkmfoccefcfaa
