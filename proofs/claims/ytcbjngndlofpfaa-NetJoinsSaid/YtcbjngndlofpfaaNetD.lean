/- The law NetChecks, walked; Compare, NetOrder and the law NetHolds. -/
import Derived.Test.YtcbjngndlofpfaaNetC
import Derived.Deep.RegionHeld3
namespace Go.Proofs.Ytcbjngndlofpfaa
open Go.RowKit Go.Sort
set_option linter.unusedVariables false

theorem of_g (a n : Int) (h2 : 0 ≤ a) (h3 : a < 4294967296) : Gives Try.prog 19 #[.int .u32 a, .int .i64 n] (.tuple #[.agg #[.int .u32 (ofA a n), .int .i64 (ofN n)], .int .i64 (ofE n)]) :=
  fun w => of_c a n w h2 h3

set_option maxHeartbeats 1000000 in
theorem law_NetChecks (a n x b : Int) (w : World) (wa : (Lit.int .u32 a).wf = true) (wn : (Lit.int .i64 n).wf = true) (wx : (Lit.int .u32 x).wf = true) (wb : (Lit.int .i64 b).wf = true) :
    Calls Try.prog 5 #[.agg #[.int .u32 a, .int .i64 n], .int .u32 x, .int .i64 b] w fun e w' => e = .returned (.bool true) ∧ Below w.heap.size w w' := by
  obtain ⟨h2, h3'⟩ := wfb_u32 wa
  obtain ⟨h4, h5'⟩ := wfb_u32 wx
  clear wa wx wn wb
  go_enter Try.func5, Try.ntmps5
  go_wp2_with (first | (go_at_call 18; refine (check_g a n h2 h3' _).mono ?_; rintro e w1 ⟨rfl, hb_w1⟩; obtain ⟨hc_w1, hf_w1⟩ := bcell hb_w1; have hq_w1 := hb_w1.size; (try simp at hq_w1); (try (have hl_w1_w_0 : w.heap.size < w1.heap.size := (by omega); have hm_w1_w_0 := Nat.le_of_lt hl_w1_w_0)); (try (have hl_w1_w_1 : w.heap.size + 1 < w1.heap.size := (by omega); have hm_w1_w_1 := Nat.le_of_lt hl_w1_w_1)); (try (have hl_w1_w_2 : w.heap.size + 2 < w1.heap.size := (by omega); have hm_w1_w_2 := Nat.le_of_lt hl_w1_w_2))) | (go_at_call 19; refine (of_g x b h4 h5' _).mono ?_; rintro e w2 ⟨rfl, hb_w2⟩; obtain ⟨hc_w2, hf_w2⟩ := bcell hb_w2; have hq_w2 := hb_w2.size; (try simp at hq_w2); (try (have hl_w2_w_0 : w.heap.size < w2.heap.size := (by omega); have hm_w2_w_0 := Nat.le_of_lt hl_w2_w_0)); (try (have hl_w2_w_1 : w.heap.size + 1 < w2.heap.size := (by omega); have hm_w2_w_1 := Nat.le_of_lt hl_w2_w_1)); (try (have hl_w2_w_2 : w.heap.size + 2 < w2.heap.size := (by omega); have hm_w2_w_2 := Nat.le_of_lt hl_w2_w_2))) | (go_at_call 20; refine (refFault_g a n h2 h3' _).mono ?_; rintro e w3 ⟨rfl, hb_w3⟩; obtain ⟨hc_w3, hf_w3⟩ := bcell hb_w3; have hq_w3 := hb_w3.size; (try simp at hq_w3); (try (have hl_w3_w_0 : w.heap.size < w3.heap.size := (by omega); have hm_w3_w_0 := Nat.le_of_lt hl_w3_w_0)); (try (have hl_w3_w_1 : w.heap.size + 1 < w3.heap.size := (by omega); have hm_w3_w_1 := Nat.le_of_lt hl_w3_w_1)); (try (have hl_w3_w_2 : w.heap.size + 2 < w3.heap.size := (by omega); have hm_w3_w_2 := Nat.le_of_lt hl_w3_w_2)); (try (have hl_w3_w2_0 : w2.heap.size < w3.heap.size := (by omega); have hm_w3_w2_0 := Nat.le_of_lt hl_w3_w2_0)); (try (have hl_w3_w2_1 : w2.heap.size + 1 < w3.heap.size := (by omega); have hm_w3_w2_1 := Nat.le_of_lt hl_w3_w2_1)); (try (have hl_w3_w2_2 : w2.heap.size + 2 < w3.heap.size := (by omega); have hm_w3_w2_2 := Nat.le_of_lt hl_w3_w2_2))) | (go_at_call 21; refine (refOf_g x b h4 h5' _).mono ?_; rintro e w4 ⟨rfl, hb_w4⟩; obtain ⟨hc_w4, hf_w4⟩ := bcell hb_w4; have hq_w4 := hb_w4.size; (try simp at hq_w4); (try (have hl_w4_w_0 : w.heap.size < w4.heap.size := (by omega); have hm_w4_w_0 := Nat.le_of_lt hl_w4_w_0)); (try (have hl_w4_w_1 : w.heap.size + 1 < w4.heap.size := (by omega); have hm_w4_w_1 := Nat.le_of_lt hl_w4_w_1)); (try (have hl_w4_w_2 : w.heap.size + 2 < w4.heap.size := (by omega); have hm_w4_w_2 := Nat.le_of_lt hl_w4_w_2)); (try (have hl_w4_w2_0 : w2.heap.size < w4.heap.size := (by omega); have hm_w4_w2_0 := Nat.le_of_lt hl_w4_w2_0)); (try (have hl_w4_w2_1 : w2.heap.size + 1 < w4.heap.size := (by omega); have hm_w4_w2_1 := Nat.le_of_lt hl_w4_w2_1)); (try (have hl_w4_w2_2 : w2.heap.size + 2 < w4.heap.size := (by omega); have hm_w4_w2_2 := Nat.le_of_lt hl_w4_w2_2))))
  all_goals (go_ret; exact ⟨rfl, by (repeat' (first | exact Below.refl _ _ | assumption | refine bstep ?_ (by assumption) | refine balloc ?_ _ | refine bdrew ?_ | refine bdrewN ?_ _ | refine bset ?_ ?_ _ | (show _ ≤ _; simp; omega) | (simp; done)))⟩)

end Go.Proofs.Ytcbjngndlofpfaa
