/- What Check and Has of package window, and the references of them, compute: contracts. -/
import Derived.Test.YtgpleldhddpcgaaGreatDoorProg
import Derived.Test.YtgpleldhddpcgaaGreatDoorSLib
import Derived.WalkKit
import Derived.Deep.QuietTactic
import Derived.BigQuiet
namespace Go.Proofs.YtgpleldhddpcgaaGreatDoor
open Go.RowKit Go.Sort
set_option linter.unusedVariables false
def odd64 (x : Int) : Int := bits .and .u64 x 1
theorem zev (x : Int) (h0 : 0 ≤ x) (h1 : x < 18446744073709551616) : odd64 x = x % 2 := by
 unfold odd64
 rw [u64_and x 1 h0 h1 (by omega) (by omega)]
 obtain ⟨b, rfl⟩ := Int.eq_ofNat_of_zero_le h0
 have e : (1 : Int).toNat = 1 := rfl
 rw [e, nat_mask1]
 simp
theorem zg5 (a : Int) (k : Nat) (h2 : 0 ≤ a) (h3 : a < 18446744073709551616) : 0 ≤ a / 2 ^ k ∧ a / 2 ^ k < 18446744073709551616 := by
 obtain ⟨b, rfl⟩ := Int.eq_ofNat_of_zero_le h2
 rw [zbY]
 have h := Nat.div_le_self b (2 ^ k)
 have e : (b : Int) / ((2 ^ k : Nat) : Int) = ((b / 2 ^ k : Nat) : Int) := by simp
 rw [e]
 generalize b / 2 ^ k = c at h
 omega
theorem odd64_shr (b : Int) (k : Nat) (h0 : 0 ≤ b) (h1 : b < 18446744073709551616) : odd64 (b / 2 ^ k) = b / 2 ^ k % 2 :=
 zev _ (zg5 b k h0 h1).1 (zg5 b k h0 h1).2
/-- what Check answers: of Some, Last, Bits -/
def zbs (s : Bool) (l b : Int) : Int :=
 if s = false then (if l = 0 ∧ b = 0 then 0 else 14)
 else if l < 0 ∨ 1099511627776 < l then 4
 else if b % 2 = 0 then 14
 else if l < 63 ∧ ¬ b / 2 ^ (l + 1).toNat = 0 then 14 else 0
set_option maxHeartbeats 1000000 in
theorem winCheck_g (s : Bool) (l b : Int) (hb0 : 0 ≤ b) (hb1 : b < 18446744073709551616) (hl0 : -9223372036854775808 ≤ l) (hl1 : l < 9223372036854775808) :
  Gives Tryz.prog 158 #[.agg #[.bool s, .int .i64 l, .int .u64 b]] (.int .i64 (zbs s l b)) := by
 intro w
 have HA := Lib.hid (zev b hb0 hb1)
 cases s
 ·have HE := Lib.hid (show zbs false l b = if l = 0 ∧ b = 0 then 0 else 14 by unfold zbs; rw [if_pos rfl])
  go_enter Tryz.func158, Tryz.ntmps158
  go_wp2_with fail
  all_goals (go_ret; exact ⟨zbz (by rw [HE.out]; simp [*]), by (repeat' (first | exact Below.refl _ _ | assumption | refine zbL ?_ (by assumption) | refine zbi ?_ _ | refine zbR ?_ | refine zbh ?_ _ | refine bset ?_ ?_ _ | (show _ ≤ _; simp; omega) | (simp; done)))⟩)
 ·have HE := Lib.hid (show zbs true l b = if l < 0 ∨ 1099511627776 < l then 4 else if b % 2 = 0 then 14 else if l < 63 ∧ ¬ b / 2 ^ (l + 1).toNat = 0 then 14 else 0 by unfold zbs; rw [if_neg (by simp)])
  go_enter Tryz.func158, Tryz.ntmps158
  go_wp2_with fail
  all_goals
   go_ret
   refine ⟨zbz ?_, by (repeat' (first | exact Below.refl _ _ | assumption | refine zbL ?_ (by assumption) | refine zbi ?_ _ | refine zbR ?_ | refine zbh ?_ _ | refine bset ?_ ?_ _ | (show _ ≤ _; simp; omega) | (simp; done)))⟩
   rw [HE.out, ← HA.out]
   unfold odd64
   (repeat' split) <;> simp_all <;> omega
theorem bits_high (l b : Int) (hb0 : 0 ≤ b) (hb1 : b < 18446744073709551616) (hl : 0 ≤ l) (H : ∀ j : Nat, j < 64 → l < j → b / 2 ^ j % 2 = 0) : ¬ (l < 63 ∧ ¬ b / 2 ^ (l + 1).toNat = 0) := by
 rintro ⟨h63, hne⟩
 obtain ⟨x, rfl⟩ := Int.eq_ofNat_of_zero_le hb0
 obtain ⟨m, rfl⟩ := Int.eq_ofNat_of_zero_le hl
 have e : ((m : Int) + 1).toNat = m + 1 := by omega
 rw [e] at hne
 apply hne
 have key : x / 2 ^ (m + 1) = 0 := by
  apply Nat.eq_of_testBit_eq
  intro i
  rw [Nat.testBit_div_two_pow, Nat.zero_testBit]
  by_cases hi : i + (m + 1) < 64
  ·have := H (i + (m + 1)) hi (by omega)
   rw [zbY] at this
   have h2 : x / 2 ^ (i + (m + 1)) % 2 = 0 := by exact_mod_cast this
   rw [Nat.testBit_eq_decide_div_mod_eq]
   simp [h2]
  ·exact Nat.testBit_lt_two_pow (Nat.lt_of_lt_of_le (show x < 2 ^ 64 by omega) (Nat.pow_le_pow_right (by decide) (by omega)))
 rw [zbY]
 have : (x : Int) / ((2 ^ (m + 1) : Nat) : Int) = ((x / 2 ^ (m + 1) : Nat) : Int) := by simp
 rw [this, key]
 rfl
theorem bits_high' (l b : Int) (k : Nat) (hb0 : 0 ≤ b) (hl : 0 ≤ l) (hk : k < 64) (hlk : l < k) (hbit : b / 2 ^ k % 2 = 1) : l < 63 ∧ ¬ b / 2 ^ (l + 1).toNat = 0 := by
 refine ⟨by omega, fun h0 => ?_⟩
 obtain ⟨x, rfl⟩ := Int.eq_ofNat_of_zero_le hb0
 obtain ⟨m, rfl⟩ := Int.eq_ofNat_of_zero_le hl
 have e : ((m : Int) + 1).toNat = m + 1 := by omega
 rw [e, zbY] at h0
 rw [zbY] at hbit
 have h1 : x / 2 ^ (m + 1) = 0 := by exact_mod_cast h0
 have h2 : x / 2 ^ k % 2 = 1 := by exact_mod_cast hbit
 have h3 : x < 2 ^ (m + 1) := by
  rcases Nat.div_eq_zero_iff.1 h1 with h | h
  ·have := Nat.two_pow_pos (m + 1); omega
  ·exact h
 have h4 : x / 2 ^ k = 0 := Nat.div_eq_of_lt (Nat.lt_of_lt_of_le h3 (Nat.pow_le_pow_right (by decide) (by omega)))
 rw [h4] at h2
 simp at h2
set_option maxHeartbeats 1000000 in
theorem refWinFault_g (s : Bool) (l b : Int) (hb0 : 0 ≤ b) (hb1 : b < 18446744073709551616) (hl0 : -9223372036854775808 ≤ l) (hl1 : l < 9223372036854775808) :
  Gives Tryz.prog 160 #[.agg #[.bool s, .int .i64 l, .int .u64 b]] (.int .i64 (zbs s l b)) := by
 intro w
 cases s
 ·have HE := Lib.hid (show zbs false l b = if l = 0 ∧ b = 0 then 0 else 14 by unfold zbs; rw [if_pos rfl])
  go_enter Tryz.func160, Tryz.ntmps160
  go_wp2_with fail
  all_goals (go_ret; exact ⟨zbz (by rw [HE.out]; (repeat' split) <;> simp_all), by (repeat' (first | exact Below.refl _ _ | assumption | refine zbL ?_ (by assumption) | refine zbi ?_ _ | refine zbR ?_ | refine zbh ?_ _ | refine bset ?_ ?_ _ | (show _ ≤ _; simp; omega) | (simp; done)))⟩)
 ·have HE := Lib.hid (show zbs true l b = if l < 0 ∨ 1099511627776 < l then 4 else if b % 2 = 0 then 14 else if l < 63 ∧ ¬ b / 2 ^ (l + 1).toNat = 0 then 14 else 0 by unfold zbs; rw [if_neg (by simp)])
  by_cases hl : l < 0 ∨ 1099511627776 < l
  ·have HE2 := Lib.hid (HE.out.trans (if_pos hl))
   clear HE
   rcases (show l < 0 ∨ (0 ≤ l ∧ 1099511627776 < l) by omega) with h | ⟨ha, hb⟩
   all_goals
    clear hl
    go_enter Tryz.func160, Tryz.ntmps160
    go_wp2_with fail
    go_ret
    exact ⟨zbz HE2.out.symm, by (repeat' (first | exact Below.refl _ _ | assumption | refine zbL ?_ (by assumption) | refine zbi ?_ _ | refine zbR ?_ | refine zbh ?_ _ | refine bset ?_ ?_ _ | (show _ ≤ _; simp; omega) | (simp; done)))⟩
  ·have hla : 0 ≤ l := by omega
   have hlb : l ≤ 1099511627776 := by omega
   have HA := zev b hb0 hb1
   rcases (show b % 2 = 0 ∨ b % 2 = 1 by omega) with h2 | h2
   ·have HE2 := Lib.hid (show zbs true l b = 14 by rw [HE.out, if_neg hl, if_pos h2])
    have hd : (bits .and .u64 b 1 != 1) = true := by rw [show bits .and .u64 b 1 = 0 from HA.trans h2]; rfl
    clear hl HA h2
    go_enter Tryz.func160, Tryz.ntmps160
    go_wp2_with fail
    go_ret
    exact ⟨zbz HE2.out.symm, by (repeat' (first | exact Below.refl _ _ | assumption | refine zbL ?_ (by assumption) | refine zbi ?_ _ | refine zbR ?_ | refine zbh ?_ _ | refine bset ?_ ?_ _ | (show _ ≤ _; simp; omega) | (simp; done)))⟩
   ·have HE2 := Lib.hid (show zbs true l b = if l < 63 ∧ ¬ b / 2 ^ (l + 1).toNat = 0 then 14 else 0 by rw [HE.out, if_neg hl, if_neg (by omega)])
    have hd : (bits .and .u64 b 1 != 1) = false := by rw [show bits .and .u64 b 1 = 1 from HA.trans h2]; rfl
    clear hl HA h2
    go_enter Tryz.func160, Tryz.ntmps160
    go_wp2_with fail
    go_loop [3] (fun i => ∃ k : Int, 0 ≤ k ∧ k ≤ 64 ∧ i = .int .i64 k ∧ Hid (∀ j : Nat, j < k → l < j → b / 2 ^ j % 2 = 0)) (fun i => (64 - intOf i).toNat)
    case atStart => exact ⟨0, by omega, by omega, rfl, fun j hj => by omega⟩
    case round =>
     obtain ⟨k, hk1, hk2, rfl, HK⟩ := hrel
     by_cases hlt : k < 64
     ·have HB := odd64_shr b k.toNat hb0 hb1
      have hr := zg5 b k.toNat hb0 hb1
      rcases (show b / 2 ^ k.toNat % 2 = 0 ∨ b / 2 ^ k.toNat % 2 = 1 by omega) with hbit | hbit
      ·have hd : (bits .and .u64 (b / 2 ^ k.toNat) 1 == 1) = false := by rw [show bits .and .u64 (b / 2 ^ k.toNat) 1 = 0 from HB.trans hbit]; rfl
       have HB := Lib.hid hbit
       clear hbit hr
       go_wp2
       go_round
       case rel =>
        refine ⟨k + 1, by omega, by omega, by go_num, fun j hj hlj => ?_⟩
        by_cases hjk : (j : Int) < k
        ·exact HK.out j hjk hlj
        ·obtain rfl : j = k.toNat := by omega
         exact HB.out
       case measure => simp [intOf]; omega
      ·have hd : (bits .and .u64 (b / 2 ^ k.toNat) 1 == 1) = true := by rw [show bits .and .u64 (b / 2 ^ k.toNat) 1 = 1 from HB.trans hbit]; rfl
       have HB := Lib.hid hbit
       clear hbit hr
       by_cases hlk : l < k
       ·go_wp2
        go_ret
        exact ⟨zbz (by rw [HE2.out, if_pos (bits_high' l b k.toNat hb0 hla (by omega) (by omega) HB.out)]), by (repeat' (first | exact Below.refl _ _ | assumption | refine zbL ?_ (by assumption) | refine zbi ?_ _ | refine zbR ?_ | refine zbh ?_ _ | refine bset ?_ ?_ _ | (show _ ≤ _; simp; omega) | (simp; done)))⟩
       ·go_wp2
        go_round
        case rel =>
         refine ⟨k + 1, by omega, by omega, by go_num, fun j hj hlj => ?_⟩
         by_cases hjk : (j : Int) < k
         ·exact HK.out j hjk hlj
         ·omega
        case measure => simp [intOf]; omega
     ·obtain rfl : k = 64 := by omega
      go_wp2
      go_ret
      exact ⟨zbz (by rw [HE2.out, if_neg (bits_high l b hb0 hb1 hla (fun j hj hlj => HK.out j (by omega) hlj))]), by (repeat' (first | exact Below.refl _ _ | assumption | refine zbL ?_ (by assumption) | refine zbi ?_ _ | refine zbR ?_ | refine zbh ?_ _ | refine bset ?_ ?_ _ | (show _ ≤ _; simp; omega) | (simp; done)))⟩
end Go.Proofs.YtgpleldhddpcgaaGreatDoor
