/- What Has of package window, and its reference, compute; the law WindowChecks walked. -/
import Derived.Test.YtckkmfoccefcfaaWinA
namespace Go.Proofs.Ytckkmfoccefcfaa
open Go.RowKit Go.Sort
set_option linter.unusedVariables false

def winHE (s : Bool) (l b n : Int) : Int := if winFault s l b = 0 then (if n < 0 ∨ 1099511627776 < n then 4 else 0) else winFault s l b
def winHB (s : Bool) (l b n : Int) : Bool := decide (winHE s l b n = 0 ∧ s = true ∧ n ≤ l ∧ (64 ≤ l - n ∨ b / 2 ^ (l - n).toNat % 2 = 1))

theorem winFault_true {l b : Int} (h : winFault true l b = 0) : 0 ≤ l ∧ l ≤ 1099511627776 ∧ b % 2 = 1 ∧ (l < 63 → b / 2 ^ (l + 1).toNat = 0) := by
  unfold winFault at h
  rw [if_neg (by simp)] at h
  by_cases h1 : l < 0 ∨ 1099511627776 < l
  · rw [if_pos h1] at h; simp at h
  · rw [if_neg h1] at h
    by_cases h2 : b % 2 = 0
    · rw [if_pos h2] at h; simp at h
    · rw [if_neg h2] at h
      by_cases h3 : l < 63 ∧ ¬ b / 2 ^ (l + 1).toNat = 0
      · rw [if_pos h3] at h; simp at h
      · refine ⟨by omega, by omega, by omega, fun hl => ?_⟩
        by_cases h4 : b / 2 ^ (l + 1).toNat = 0
        · exact h4
        · exact absurd ⟨hl, h4⟩ h3

theorem tuple_bi {x y : Bool} {a c : Int} (h : x = y) (k : a = c) : Ending.returned (.tuple #[.bool x, .int .i64 a]) = .returned (.tuple #[.bool y, .int .i64 c]) := by rw [h, k]

set_option maxHeartbeats 1000000 in
theorem winHas_g (s : Bool) (l b n : Int) (hb0 : 0 ≤ b) (hb1 : b < 18446744073709551616) (hl0 : -9223372036854775808 ≤ l) (hl1 : l < 9223372036854775808) (hn0 : -9223372036854775808 ≤ n) (hn1 : n < 9223372036854775808) :
    Gives Try.prog 114 #[.agg #[.bool s, .int .i64 l, .int .u64 b], .int .i64 n] (.tuple #[.bool (winHB s l b n), .int .i64 (winHE s l b n)]) := by
  intro w
  by_cases hf : winFault s l b = 0
  · have hd : (winFault s l b != 0) = false := by simp [hf]
    by_cases hn : n < 0 ∨ 1099511627776 < n
    · have HE := Lib.hid (show winHB s l b n = false ∧ winHE s l b n = 4 by
        have h : winHE s l b n = 4 := by unfold winHE; rw [if_pos hf, if_pos hn]
        refine ⟨?_, h⟩; unfold winHB; rw [h]; simp)
      clear hf
      rcases (show n < 0 ∨ (0 ≤ n ∧ 1099511627776 < n) by omega) with h | ⟨ha, hb⟩
      all_goals
        clear hn
        go_enter Try.func114, Try.ntmps114
        go_wp2_with (first | (go_at_call 106; (with_reducible refine Gives.use (winCheck_g s l b hb0 hb1 hl0 hl1) ?_); intro w1 hb_w1; obtain ⟨hc_w1, hf_w1⟩ := bcell hb_w1; have hq_w1 := hb_w1.size; (try simp at hq_w1); (try (have hl_w1_w_0 : w.heap.size < w1.heap.size := (by omega); have hm_w1_w_0 := Nat.le_of_lt hl_w1_w_0)); (try (have hl_w1_w_1 : w.heap.size + 1 < w1.heap.size := (by omega); have hm_w1_w_1 := Nat.le_of_lt hl_w1_w_1)); (try (have hl_w1_w_2 : w.heap.size + 2 < w1.heap.size := (by omega); have hm_w1_w_2 := Nat.le_of_lt hl_w1_w_2))))
        go_ret2
        exact ⟨tuple_bi HE.out.1.symm HE.out.2.symm, by (repeat' (first | exact Below.refl _ _ | assumption | refine bstep ?_ (by assumption) | refine balloc ?_ _ | refine bdrew ?_ | refine bdrewN ?_ _ | refine bset ?_ ?_ _ | (show _ ≤ _; simp; omega) | (simp; done)))⟩
    · have hna : 0 ≤ n := by omega
      have hnb : n ≤ 1099511627776 := by omega
      have HE := Lib.hid (show winHE s l b n = 0 by unfold winHE; rw [if_pos hf, if_neg hn])
      clear hn
      cases s
      · have HB := Lib.hid (show winHB false l b n = false by unfold winHB; simp)
        clear hf
        go_enter Try.func114, Try.ntmps114
        go_wp2_with (first | (go_at_call 106; (with_reducible refine Gives.use (winCheck_g false l b hb0 hb1 hl0 hl1) ?_); intro w1 hb_w1; obtain ⟨hc_w1, hf_w1⟩ := bcell hb_w1; have hq_w1 := hb_w1.size; (try simp at hq_w1); (try (have hl_w1_w_0 : w.heap.size < w1.heap.size := (by omega); have hm_w1_w_0 := Nat.le_of_lt hl_w1_w_0)); (try (have hl_w1_w_1 : w.heap.size + 1 < w1.heap.size := (by omega); have hm_w1_w_1 := Nat.le_of_lt hl_w1_w_1)); (try (have hl_w1_w_2 : w.heap.size + 2 < w1.heap.size := (by omega); have hm_w1_w_2 := Nat.le_of_lt hl_w1_w_2))))
        go_ret2
        exact ⟨tuple_bi HB.out.symm HE.out.symm, by (repeat' (first | exact Below.refl _ _ | assumption | refine bstep ?_ (by assumption) | refine balloc ?_ _ | refine bdrew ?_ | refine bdrewN ?_ _ | refine bset ?_ ?_ _ | (show _ ≤ _; simp; omega) | (simp; done)))⟩
      · obtain ⟨hla, hlb, _, _⟩ := winFault_true hf
        clear hf
        have HB := Lib.hid (show winHB true l b n = decide (n ≤ l ∧ (64 ≤ l - n ∨ b / 2 ^ (l - n).toNat % 2 = 1)) by unfold winHB; rw [HE.out]; simp)
        have hO := Lib.hid (odd64_shr b (l - n).toNat hb0 hb1)
        go_enter Try.func114, Try.ntmps114
        go_wp2_with (first | (go_at_call 106; (with_reducible refine Gives.use (winCheck_g true l b hb0 hb1 hl0 hl1) ?_); intro w1 hb_w1; obtain ⟨hc_w1, hf_w1⟩ := bcell hb_w1; have hq_w1 := hb_w1.size; (try simp at hq_w1); (try (have hl_w1_w_0 : w.heap.size < w1.heap.size := (by omega); have hm_w1_w_0 := Nat.le_of_lt hl_w1_w_0)); (try (have hl_w1_w_1 : w.heap.size + 1 < w1.heap.size := (by omega); have hm_w1_w_1 := Nat.le_of_lt hl_w1_w_1)); (try (have hl_w1_w_2 : w.heap.size + 2 < w1.heap.size := (by omega); have hm_w1_w_2 := Nat.le_of_lt hl_w1_w_2))))
        all_goals
          go_ret2
          refine ⟨tuple_bi ?_ HE.out.symm, by (repeat' (first | exact Below.refl _ _ | assumption | refine bstep ?_ (by assumption) | refine balloc ?_ _ | refine bdrew ?_ | refine bdrewN ?_ _ | refine bset ?_ ?_ _ | (show _ ≤ _; simp; omega) | (simp; done)))⟩
          rw [HB.out, ← hO.out]
          unfold odd64
          rw [Bool.eq_iff_iff]
          simp
          (try omega)
  · have hd : (winFault s l b != 0) = true := by simp [hf]
    have HE := Lib.hid (show winHB s l b n = false ∧ winHE s l b n = winFault s l b by
      have h : winHE s l b n = winFault s l b := by unfold winHE; rw [if_neg hf]
      refine ⟨?_, h⟩; unfold winHB; rw [h]; simp [hf])
    clear hf
    go_enter Try.func114, Try.ntmps114
    go_wp2_with (first | (go_at_call 106; (with_reducible refine Gives.use (winCheck_g s l b hb0 hb1 hl0 hl1) ?_); intro w1 hb_w1; obtain ⟨hc_w1, hf_w1⟩ := bcell hb_w1; have hq_w1 := hb_w1.size; (try simp at hq_w1); (try (have hl_w1_w_0 : w.heap.size < w1.heap.size := (by omega); have hm_w1_w_0 := Nat.le_of_lt hl_w1_w_0)); (try (have hl_w1_w_1 : w.heap.size + 1 < w1.heap.size := (by omega); have hm_w1_w_1 := Nat.le_of_lt hl_w1_w_1)); (try (have hl_w1_w_2 : w.heap.size + 2 < w1.heap.size := (by omega); have hm_w1_w_2 := Nat.le_of_lt hl_w1_w_2))))
    go_ret2
    exact ⟨tuple_bi HE.out.1.symm HE.out.2.symm, by (repeat' (first | exact Below.refl _ _ | assumption | refine bstep ?_ (by assumption) | refine balloc ?_ _ | refine bdrew ?_ | refine bdrewN ?_ _ | refine bset ?_ ?_ _ | (show _ ≤ _; simp; omega) | (simp; done)))⟩

set_option maxHeartbeats 1000000 in
theorem refWinHas_g (s : Bool) (l b n : Int) (hb0 : 0 ≤ b) (hb1 : b < 18446744073709551616) (hl0 : -9223372036854775808 ≤ l) (hl1 : l < 9223372036854775808) (hn0 : -9223372036854775808 ≤ n) (hn1 : n < 9223372036854775808) :
    Gives Try.prog 115 #[.agg #[.bool s, .int .i64 l, .int .u64 b], .int .i64 n] (.tuple #[.bool (winHB s l b n), .int .i64 (winHE s l b n)]) := by
  intro w
  by_cases hf : winFault s l b = 0
  · have hd : (winFault s l b != 0) = false := by simp [hf]
    by_cases hn : n < 0 ∨ 1099511627776 < n
    · have HE := Lib.hid (show winHB s l b n = false ∧ winHE s l b n = 4 by
        have h : winHE s l b n = 4 := by unfold winHE; rw [if_pos hf, if_pos hn]
        refine ⟨?_, h⟩; unfold winHB; rw [h]; simp)
      clear hf
      rcases (show n < 0 ∨ (0 ≤ n ∧ 1099511627776 < n) by omega) with h | ⟨ha, hb⟩
      all_goals
        clear hn
        go_enter Try.func115, Try.ntmps115
        go_wp2_with (first | (go_at_call 108; (with_reducible refine Gives.use (refWinFault_g s l b hb0 hb1 hl0 hl1) ?_); intro w1 hb_w1; obtain ⟨hc_w1, hf_w1⟩ := bcell hb_w1; have hq_w1 := hb_w1.size; (try simp at hq_w1); (try (have hl_w1_w_0 : w.heap.size < w1.heap.size := (by omega); have hm_w1_w_0 := Nat.le_of_lt hl_w1_w_0)); (try (have hl_w1_w_1 : w.heap.size + 1 < w1.heap.size := (by omega); have hm_w1_w_1 := Nat.le_of_lt hl_w1_w_1)); (try (have hl_w1_w_2 : w.heap.size + 2 < w1.heap.size := (by omega); have hm_w1_w_2 := Nat.le_of_lt hl_w1_w_2))))
        go_ret2
        exact ⟨tuple_bi HE.out.1.symm HE.out.2.symm, by (repeat' (first | exact Below.refl _ _ | assumption | refine bstep ?_ (by assumption) | refine balloc ?_ _ | refine bdrew ?_ | refine bdrewN ?_ _ | refine bset ?_ ?_ _ | (show _ ≤ _; simp; omega) | (simp; done)))⟩
    · have hna : 0 ≤ n := by omega
      have hnb : n ≤ 1099511627776 := by omega
      have HE := Lib.hid (show winHE s l b n = 0 by unfold winHE; rw [if_pos hf, if_neg hn])
      clear hn
      cases s
      · have HB := Lib.hid (show winHB false l b n = false by unfold winHB; simp)
        clear hf
        go_enter Try.func115, Try.ntmps115
        go_wp2_with (first | (go_at_call 108; (with_reducible refine Gives.use (refWinFault_g false l b hb0 hb1 hl0 hl1) ?_); intro w1 hb_w1; obtain ⟨hc_w1, hf_w1⟩ := bcell hb_w1; have hq_w1 := hb_w1.size; (try simp at hq_w1); (try (have hl_w1_w_0 : w.heap.size < w1.heap.size := (by omega); have hm_w1_w_0 := Nat.le_of_lt hl_w1_w_0)); (try (have hl_w1_w_1 : w.heap.size + 1 < w1.heap.size := (by omega); have hm_w1_w_1 := Nat.le_of_lt hl_w1_w_1)); (try (have hl_w1_w_2 : w.heap.size + 2 < w1.heap.size := (by omega); have hm_w1_w_2 := Nat.le_of_lt hl_w1_w_2))))
        go_ret2
        exact ⟨tuple_bi HB.out.symm HE.out.symm, by (repeat' (first | exact Below.refl _ _ | assumption | refine bstep ?_ (by assumption) | refine balloc ?_ _ | refine bdrew ?_ | refine bdrewN ?_ _ | refine bset ?_ ?_ _ | (show _ ≤ _; simp; omega) | (simp; done)))⟩
      · obtain ⟨hla, hlb, _, _⟩ := winFault_true hf
        clear hf
        have HB := Lib.hid (show winHB true l b n = decide (n ≤ l ∧ (64 ≤ l - n ∨ b / 2 ^ (l - n).toNat % 2 = 1)) by unfold winHB; rw [HE.out]; simp)
        by_cases hfar : n ≤ l - 64
        · have HB2 := Lib.hid (show winHB true l b n = true by rw [HB.out]; simp; omega)
          go_enter Try.func115, Try.ntmps115
          go_wp2_with (first | (go_at_call 108; (with_reducible refine Gives.use (refWinFault_g true l b hb0 hb1 hl0 hl1) ?_); intro w1 hb_w1; obtain ⟨hc_w1, hf_w1⟩ := bcell hb_w1; have hq_w1 := hb_w1.size; (try simp at hq_w1); (try (have hl_w1_w_0 : w.heap.size < w1.heap.size := (by omega); have hm_w1_w_0 := Nat.le_of_lt hl_w1_w_0)); (try (have hl_w1_w_1 : w.heap.size + 1 < w1.heap.size := (by omega); have hm_w1_w_1 := Nat.le_of_lt hl_w1_w_1)); (try (have hl_w1_w_2 : w.heap.size + 2 < w1.heap.size := (by omega); have hm_w1_w_2 := Nat.le_of_lt hl_w1_w_2))))
          go_ret2
          exact ⟨tuple_bi HB2.out.symm HE.out.symm, by (repeat' (first | exact Below.refl _ _ | assumption | refine bstep ?_ (by assumption) | refine balloc ?_ _ | refine bdrew ?_ | refine bdrewN ?_ _ | refine bset ?_ ?_ _ | (show _ ≤ _; simp; omega) | (simp; done)))⟩
        · go_enter Try.func115, Try.ntmps115
          go_wp2_with (first | (go_at_call 108; (with_reducible refine Gives.use (refWinFault_g true l b hb0 hb1 hl0 hl1) ?_); intro w1 hb_w1; obtain ⟨hc_w1, hf_w1⟩ := bcell hb_w1; have hq_w1 := hb_w1.size; (try simp at hq_w1); (try (have hl_w1_w_0 : w.heap.size < w1.heap.size := (by omega); have hm_w1_w_0 := Nat.le_of_lt hl_w1_w_0)); (try (have hl_w1_w_1 : w.heap.size + 1 < w1.heap.size := (by omega); have hm_w1_w_1 := Nat.le_of_lt hl_w1_w_1)); (try (have hl_w1_w_2 : w.heap.size + 2 < w1.heap.size := (by omega); have hm_w1_w_2 := Nat.le_of_lt hl_w1_w_2))))
          go_loop [7] (fun i => ∃ k : Int, 0 ≤ k ∧ k ≤ 64 ∧ i = .int .i64 k ∧ Hid (∀ j : Int, 0 ≤ j → j < k → l - j = n → b / 2 ^ j.toNat % 2 = 0)) (fun i => (64 - intOf i).toNat)
          case atStart => exact ⟨0, by omega, by omega, rfl, fun j hj => by omega⟩
          case round =>
            obtain ⟨k, hk1, hk2, rfl, HK⟩ := hrel
            by_cases hlt : k < 64
            · have hO := odd64_shr b k.toNat hb0 hb1
              have hr := shr64_bd b k.toNat hb0 hb1
              by_cases hlk : l - k = n
              · have hdl : (l - k == n) = true := by simp [hlk]
                have HL := Lib.hid hlk
                clear hlk
                rcases (show b / 2 ^ k.toNat % 2 = 0 ∨ b / 2 ^ k.toNat % 2 = 1 by omega) with hbit | hbit
                · have hdb : (bits .and .u64 (b / 2 ^ k.toNat) 1 == 1) = false := by rw [show bits .and .u64 (b / 2 ^ k.toNat) 1 = 0 from hO.trans hbit]; rfl
                  have HBt := Lib.hid hbit
                  clear hbit hr hO
                  go_wp2
                  go_round
                  case rel =>
                    refine ⟨k + 1, by omega, by omega, by go_num, fun j hj0 hj hlj => ?_⟩
                    by_cases hjk : j < k
                    · exact HK.out j hj0 hjk hlj
                    · obtain rfl : j = k := by omega
                      exact HBt.out
                  case measure => simp [intOf]; omega
                · have hdb : (bits .and .u64 (b / 2 ^ k.toNat) 1 == 1) = true := by rw [show bits .and .u64 (b / 2 ^ k.toNat) 1 = 1 from hO.trans hbit]; rfl
                  have HBt := Lib.hid hbit
                  clear hbit hr hO
                  go_wp2
                  go_ret2
                  refine ⟨tuple_bi ?_ HE.out.symm, by (repeat' (first | exact Below.refl _ _ | assumption | refine bstep ?_ (by assumption) | refine balloc ?_ _ | refine bdrew ?_ | refine bdrewN ?_ _ | refine bset ?_ ?_ _ | (show _ ≤ _; simp; omega) | (simp; done)))⟩
                  rw [HB.out]
                  have hl := HL.out
                  have e : l - n = k := by omega
                  rw [e, HBt.out]
                  simp
                  omega
              · have hdl : (l - k == n) = false := by simp [hlk]
                have HL := Lib.hid hlk
                clear hlk hr hO
                go_wp2
                go_round
                case rel =>
                  refine ⟨k + 1, by omega, by omega, by go_num, fun j hj0 hj hlj => ?_⟩
                  by_cases hjk : j < k
                  · exact HK.out j hj0 hjk hlj
                  · obtain rfl : j = k := by omega
                    exact absurd hlj HL.out
                case measure => simp [intOf]; omega
            · obtain rfl : k = 64 := by omega
              go_wp2
              go_ret2
              refine ⟨tuple_bi ?_ HE.out.symm, by (repeat' (first | exact Below.refl _ _ | assumption | refine bstep ?_ (by assumption) | refine balloc ?_ _ | refine bdrew ?_ | refine bdrewN ?_ _ | refine bset ?_ ?_ _ | (show _ ≤ _; simp; omega) | (simp; done)))⟩
              rw [HB.out]
              symm
              simp only [decide_eq_false_iff_not]
              rintro ⟨h1, h2 | h2⟩
              · omega
              · have := HK.out (l - n) (by omega) (by omega) (by omega)
                omega
  · have hd : (winFault s l b != 0) = true := by simp [hf]
    have HE := Lib.hid (show winHB s l b n = false ∧ winHE s l b n = winFault s l b by
      have h : winHE s l b n = winFault s l b := by unfold winHE; rw [if_neg hf]
      refine ⟨?_, h⟩; unfold winHB; rw [h]; simp [hf])
    clear hf
    go_enter Try.func115, Try.ntmps115
    go_wp2_with (first | (go_at_call 108; (with_reducible refine Gives.use (refWinFault_g s l b hb0 hb1 hl0 hl1) ?_); intro w1 hb_w1; obtain ⟨hc_w1, hf_w1⟩ := bcell hb_w1; have hq_w1 := hb_w1.size; (try simp at hq_w1); (try (have hl_w1_w_0 : w.heap.size < w1.heap.size := (by omega); have hm_w1_w_0 := Nat.le_of_lt hl_w1_w_0)); (try (have hl_w1_w_1 : w.heap.size + 1 < w1.heap.size := (by omega); have hm_w1_w_1 := Nat.le_of_lt hl_w1_w_1)); (try (have hl_w1_w_2 : w.heap.size + 2 < w1.heap.size := (by omega); have hm_w1_w_2 := Nat.le_of_lt hl_w1_w_2))))
    go_ret2
    exact ⟨tuple_bi HE.out.1.symm HE.out.2.symm, by (repeat' (first | exact Below.refl _ _ | assumption | refine bstep ?_ (by assumption) | refine balloc ?_ _ | refine bdrew ?_ | refine bdrewN ?_ _ | refine bset ?_ ?_ _ | (show _ ≤ _; simp; omega) | (simp; done)))⟩

end Go.Proofs.Ytckkmfoccefcfaa
