/- What Check and Has of package window, and the references of them, compute: contracts. -/
import Derived.Test.YtbjdjclkbjpebaaGreatDoorProg
import Derived.Test.YtbjdjclkbjpebaaGreatDoorSLib
import Derived.WalkKit
import Derived.Deep.QuietTactic
import Derived.BigQuiet
import Derived.Test.YtbjdjclkbjpebaaGreatDoorSMa4
import Derived.Test.YtbjdjclkbjpebaaGreatDoorSHx
namespace Go.Proofs.YtbjdjclkbjpebaaGreatDoor
open Go.RowKit Go.Sort
set_option maxHeartbeats 16000000
set_option linter.unusedVariables false
def odd64 (x : Int) : Int := bits .and .u64 x 1
theorem zeL (x : Int) (h0 : 0 ≤ x) (h1 : x < 18446744073709551616) : odd64 x = x % 2 := by
 unfold odd64
 rw [u64_and x 1 h0 h1 (by omega) (by omega)]
 obtain ⟨b, rfl⟩ := Int.eq_ofNat_of_zero_le h0
 have e : (1 : Int).toNat = 1 := rfl
 rw [e, nat_mask1]
 simp
theorem zh5 (a : Int) (k : Nat) (h2 : 0 ≤ a) (h3 : a < 18446744073709551616) : 0 ≤ a / 2 ^ k ∧ a / 2 ^ k < 18446744073709551616 := by
 obtain ⟨b, rfl⟩ := Int.eq_ofNat_of_zero_le h2
 rw [zbU]
 have h := Nat.div_le_self b (2 ^ k)
 have e : (b : Int) / ((2 ^ k : Nat) : Int) = ((b / 2 ^ k : Nat) : Int) := by simp
 rw [e]
 generalize b / 2 ^ k = c at h
 omega
theorem odd64_shr (b : Int) (k : Nat) (h0 : 0 ≤ b) (h1 : b < 18446744073709551616) : odd64 (b / 2 ^ k) = b / 2 ^ k % 2 :=
 zeL _ (zh5 b k h0 h1).1 (zh5 b k h0 h1).2
def zbk (s : Bool) (l b : Int) : Int :=
 if s = false then (if l = 0 ∧ b = 0 then 0 else 14)
 else if l < 0 ∨ 1099511627776 < l then 4
 else if b % 2 = 0 then 14
 else if l < 63 ∧ ¬ b / 2 ^ (l + 1).toNat = 0 then 14 else 0
theorem winCheck_g (s : Bool) (l b : Int) (hb0 : 0 ≤ b) (hb1 : b < 18446744073709551616) (hl0 : -9223372036854775808 ≤ l) (hl1 : l < 9223372036854775808) :
  Gives Tryz.prog 136 #[.agg #[.bool s, .int .i64 l, .int .u64 b]] (.int .i64 (zbk s l b)) := by
 intro w
 have HA := Lib.hid (zeL b hb0 hb1)
 cases s
 ·have HE := Lib.hid (show zbk false l b = if l = 0 ∧ b = 0 then 0 else 14 by unfold zbk; rw [if_pos rfl])
  go_enter Tryz.func136, Tryz.ntmps136
  go_wp2_with fail
  all_goals (go_ret; exact ⟨zbs (by rw [HE.out]; simp [*]), by (repeat' (first | exact Below.refl _ _ | assumption | refine zbC ?_ (by assumption) | refine za7 ?_ _ | refine zbI ?_ | refine za6 ?_ _ | refine bset ?_ ?_ _ | (show _ ≤ _; simp; omega) | (simp; done)))⟩)
 ·have HE := Lib.hid (show zbk true l b = if l < 0 ∨ 1099511627776 < l then 4 else if b % 2 = 0 then 14 else if l < 63 ∧ ¬ b / 2 ^ (l + 1).toNat = 0 then 14 else 0 by unfold zbk; rw [if_neg (by simp)])
  go_enter Tryz.func136, Tryz.ntmps136
  go_wp2_with fail
  all_goals
   go_ret
   refine ⟨zbs ?_, by (repeat' (first | exact Below.refl _ _ | assumption | refine zbC ?_ (by assumption) | refine za7 ?_ _ | refine zbI ?_ | refine za6 ?_ _ | refine bset ?_ ?_ _ | (show _ ≤ _; simp; omega) | (simp; done)))⟩
   rw [HE.out, ← HA.out]
   unfold odd64
   (repeat' split) <;> simp_all <;> omega
theorem bits_high (l b : Int) (hb0 : 0 ≤ b) (hb1 : b < 18446744073709551616) (hl : 0 ≤ l) (H : ∀ j : Nat, j < 64 → l < j → b / 2 ^ j % 2 = 0) : ¬ (l < 63 ∧ ¬ b / 2 ^ (l + 1).toNat = 0) := by
 rintro ⟨h63, hne⟩
 obtain ⟨x, rfl⟩ := Int.eq_ofNat_of_zero_le hb0
 obtain ⟨m, rfl⟩ := Int.eq_ofNat_of_zero_le hl
 have e : ((m : Int) + 1).toNat = m + 1 := by omega
 rw [e] at hne
 apply hne
 have key : x / 2 ^ (m + 1) = 0 := by
  apply Nat.eq_of_testBit_eq
  intro i
  rw [Nat.testBit_div_two_pow, Nat.zero_testBit]
  by_cases hi : i + (m + 1) < 64
  ·have := H (i + (m + 1)) hi (by omega)
   rw [zbU] at this
   have h2 : x / 2 ^ (i + (m + 1)) % 2 = 0 := by exact_mod_cast this
   rw [Nat.testBit_eq_decide_div_mod_eq]
   simp [h2]
  ·exact Nat.testBit_lt_two_pow (Nat.lt_of_lt_of_le (show x < 2 ^ 64 by omega) (Nat.pow_le_pow_right (by decide) (by omega)))
 rw [zbU]
 have : (x : Int) / ((2 ^ (m + 1) : Nat) : Int) = ((x / 2 ^ (m + 1) : Nat) : Int) := by simp
 rw [this, key]
 rfl
theorem bits_high' (l b : Int) (k : Nat) (hb0 : 0 ≤ b) (hl : 0 ≤ l) (hk : k < 64) (hlk : l < k) (hbit : b / 2 ^ k % 2 = 1) : l < 63 ∧ ¬ b / 2 ^ (l + 1).toNat = 0 := by
 refine ⟨by omega, fun h0 => ?_⟩
 obtain ⟨x, rfl⟩ := Int.eq_ofNat_of_zero_le hb0
 obtain ⟨m, rfl⟩ := Int.eq_ofNat_of_zero_le hl
 have e : ((m : Int) + 1).toNat = m + 1 := by omega
 rw [e, zbU] at h0
 rw [zbU] at hbit
 have h1 : x / 2 ^ (m + 1) = 0 := by exact_mod_cast h0
 have h2 : x / 2 ^ k % 2 = 1 := by exact_mod_cast hbit
 have h3 : x < 2 ^ (m + 1) := by
  rcases Nat.div_eq_zero_iff.1 h1 with h | h
  ·have := Nat.two_pow_pos (m + 1); omega
  ·exact h
 have h4 : x / 2 ^ k = 0 := Nat.div_eq_of_lt (Nat.lt_of_lt_of_le h3 (Nat.pow_le_pow_right (by decide) (by omega)))
 rw [h4] at h2
 simp at h2
theorem refWinFault_g (s : Bool) (l b : Int) (hb0 : 0 ≤ b) (hb1 : b < 18446744073709551616) (hl0 : -9223372036854775808 ≤ l) (hl1 : l < 9223372036854775808) :
  Gives Tryz.prog 149 #[.agg #[.bool s, .int .i64 l, .int .u64 b]] (.int .i64 (zbk s l b)) := by
 intro w
 cases s
 ·have HE := Lib.hid (show zbk false l b = if l = 0 ∧ b = 0 then 0 else 14 by unfold zbk; rw [if_pos rfl])
  go_enter Tryz.func149, Tryz.ntmps149
  go_wp2_with fail
  all_goals (go_ret; exact ⟨zbs (by rw [HE.out]; (repeat' split) <;> simp_all), by (repeat' (first | exact Below.refl _ _ | assumption | refine zbC ?_ (by assumption) | refine za7 ?_ _ | refine zbI ?_ | refine za6 ?_ _ | refine bset ?_ ?_ _ | (show _ ≤ _; simp; omega) | (simp; done)))⟩)
 ·have HE := Lib.hid (show zbk true l b = if l < 0 ∨ 1099511627776 < l then 4 else if b % 2 = 0 then 14 else if l < 63 ∧ ¬ b / 2 ^ (l + 1).toNat = 0 then 14 else 0 by unfold zbk; rw [if_neg (by simp)])
  by_cases hl : l < 0 ∨ 1099511627776 < l
  ·have HE2 := Lib.hid (HE.out.trans (if_pos hl))
   clear HE
   rcases (show l < 0 ∨ (0 ≤ l ∧ 1099511627776 < l) by omega) with h | ⟨ha, hb⟩
   all_goals
    clear hl
    go_enter Tryz.func149, Tryz.ntmps149
    go_wp2_with fail
    go_ret
    exact ⟨zbs HE2.out.symm, by (repeat' (first | exact Below.refl _ _ | assumption | refine zbC ?_ (by assumption) | refine za7 ?_ _ | refine zbI ?_ | refine za6 ?_ _ | refine bset ?_ ?_ _ | (show _ ≤ _; simp; omega) | (simp; done)))⟩
  ·have hla : 0 ≤ l := by omega
   have hlb : l ≤ 1099511627776 := by omega
   have HA := zeL b hb0 hb1
   rcases (show b % 2 = 0 ∨ b % 2 = 1 by omega) with h2 | h2
   ·have HE2 := Lib.hid (show zbk true l b = 14 by rw [HE.out, if_neg hl, if_pos h2])
    have hd : (bits .and .u64 b 1 != 1) = true := by rw [show bits .and .u64 b 1 = 0 from HA.trans h2]; rfl
    clear hl HA h2
    go_enter Tryz.func149, Tryz.ntmps149
    go_wp2_with fail
    go_ret
    exact ⟨zbs HE2.out.symm, by (repeat' (first | exact Below.refl _ _ | assumption | refine zbC ?_ (by assumption) | refine za7 ?_ _ | refine zbI ?_ | refine za6 ?_ _ | refine bset ?_ ?_ _ | (show _ ≤ _; simp; omega) | (simp; done)))⟩
   ·have HE2 := Lib.hid (show zbk true l b = if l < 63 ∧ ¬ b / 2 ^ (l + 1).toNat = 0 then 14 else 0 by rw [HE.out, if_neg hl, if_neg (by omega)])
    have hd : (bits .and .u64 b 1 != 1) = false := by rw [show bits .and .u64 b 1 = 1 from HA.trans h2]; rfl
    clear hl HA h2
    go_enter Tryz.func149, Tryz.ntmps149
    go_wp2_with fail
    go_loop [3] (fun i => ∃ k : Int, 0 ≤ k ∧ k ≤ 64 ∧ i = .int .i64 k ∧ Hid (∀ j : Nat, j < k → l < j → b / 2 ^ j % 2 = 0)) (fun i => (64 - intOf i).toNat)
    case atStart => exact ⟨0, by omega, by omega, rfl, fun j hj => by omega⟩
    case round =>
     obtain ⟨k, hk1, hk2, rfl, HK⟩ := hrel
     by_cases hlt : k < 64
     ·have HB := odd64_shr b k.toNat hb0 hb1
      have hr := zh5 b k.toNat hb0 hb1
      rcases (show b / 2 ^ k.toNat % 2 = 0 ∨ b / 2 ^ k.toNat % 2 = 1 by omega) with hbit | hbit
      ·have hd : (bits .and .u64 (b / 2 ^ k.toNat) 1 == 1) = false := by rw [show bits .and .u64 (b / 2 ^ k.toNat) 1 = 0 from HB.trans hbit]; rfl
       have HB := Lib.hid hbit
       clear hbit hr
       go_wp2
       go_round
       case rel =>
        refine ⟨k + 1, by omega, by omega, by go_num, fun j hj hlj => ?_⟩
        by_cases hjk : (j : Int) < k
        ·exact HK.out j hjk hlj
        ·obtain rfl : j = k.toNat := by omega
         exact HB.out
       case measure => simp [intOf]; omega
      ·have hd : (bits .and .u64 (b / 2 ^ k.toNat) 1 == 1) = true := by rw [show bits .and .u64 (b / 2 ^ k.toNat) 1 = 1 from HB.trans hbit]; rfl
       have HB := Lib.hid hbit
       clear hbit hr
       by_cases hlk : l < k
       ·go_wp2
        go_ret
        exact ⟨zbs (by rw [HE2.out, if_pos (bits_high' l b k.toNat hb0 hla (by omega) (by omega) HB.out)]), by (repeat' (first | exact Below.refl _ _ | assumption | refine zbC ?_ (by assumption) | refine za7 ?_ _ | refine zbI ?_ | refine za6 ?_ _ | refine bset ?_ ?_ _ | (show _ ≤ _; simp; omega) | (simp; done)))⟩
       ·go_wp2
        go_round
        case rel =>
         refine ⟨k + 1, by omega, by omega, by go_num, fun j hj hlj => ?_⟩
         by_cases hjk : (j : Int) < k
         ·exact HK.out j hjk hlj
         ·omega
        case measure => simp [intOf]; omega
     ·obtain rfl : k = 64 := by omega
      go_wp2
      go_ret
      exact ⟨zbs (by rw [HE2.out, if_neg (bits_high l b hb0 hb1 hla (fun j hj hlj => HK.out j (by omega) hlj))]), by (repeat' (first | exact Below.refl _ _ | assumption | refine zbC ?_ (by assumption) | refine za7 ?_ _ | refine zbI ?_ | refine za6 ?_ _ | refine bset ?_ ?_ _ | (show _ ≤ _; simp; omega) | (simp; done)))⟩
end Go.Proofs.YtbjdjclkbjpebaaGreatDoor
namespace Go.Proofs.YtbjdjclkbjpebaaGreatDoor
open Tryz
open Go.RowKit Go.Sort
set_option maxHeartbeats 16000000
set_option linter.unusedVariables false
set_option linter.unusedSimpArgs false
set_option maxRecDepth 100000
theorem winCheck_s (s : Bool) (l b : Int) (hb0 : 0 ≤ b) (hb1 : b < 18446744073709551616) (hl0 : -9223372036854775808 ≤ l) (hl1 : l < 9223372036854775808) : Fn prog 136 [.agg [.p (.v (.bool s)), .p (.v (.int .i64 l)), .p (.v (.int .u64 b))]] (.p (.v (.int .i64 (zbk s l b)))) [] :=
 zcS rfl (fun _ _ _ => zaV rfl) (winCheck_g s l b hb0 hb1 hl0 hl1)
theorem refWinFault_s (s : Bool) (l b : Int) (hb0 : 0 ≤ b) (hb1 : b < 18446744073709551616) (hl0 : -9223372036854775808 ≤ l) (hl1 : l < 9223372036854775808) : Fn prog 149 [.agg [.p (.v (.bool s)), .p (.v (.int .i64 l)), .p (.v (.int .u64 b))]] (.p (.v (.int .i64 (zbk s l b)))) [] :=
 zcS rfl (fun _ _ _ => zaV rfl) (refWinFault_g s l b hb0 hb1 hl0 hl1)
structure KY where
 live : Bool
 send : ByteArray
 take : ByteArray
 mine : Int
 theirs : Int
 born : Int
 counter : Int
 ss : Bool
 sl : Int
 sb : Int
 first : Bool
def KY.vals (k : KY) : List Value := [.bool k.live, .string k.send, .string k.take, .int .i64 k.mine, .int .i64 k.theirs, .int .i64 k.born, .int .i64 k.counter, .bool k.ss, .int .i64 k.sl, .int .u64 k.sb, .bool k.first]
def KY.pv (k : KY) : List PV := [.v (.bool k.live), .v (.string k.send), .v (.string k.take), .v (.int .i64 k.mine), .v (.int .i64 k.theirs), .v (.int .i64 k.born), .v (.int .i64 k.counter), .v (.bool k.ss), .v (.int .i64 k.sl), .v (.int .u64 k.sb), .v (.bool k.first)]
def KY.cells (k : KY) : List AV := [.p (.v (.bool k.live)), .p (.v (.string k.send)), .p (.v (.string k.take)), .p (.v (.int .i64 k.mine)), .p (.v (.int .i64 k.theirs)), .p (.v (.int .i64 k.born)), .p (.v (.int .i64 k.counter)), .p (.v (.bool k.ss)), .p (.v (.int .i64 k.sl)), .p (.v (.int .u64 k.sb)), .p (.v (.bool k.first))]
def KY0 : KY := ⟨false, ⟨#[]⟩, ⟨#[]⟩, 0, 0, 0, 0, false, 0, 0, false⟩
structure KY.OK (k : KY) : Prop where
 sb0 : 0 ≤ k.sb
 sb1 : k.sb < 18446744073709551616
 sl0 : -9223372036854775808 ≤ k.sl
 sl1 : k.sl < 9223372036854775808
 m0 : -9223372036854775808 ≤ k.mine
 m1 : k.mine ≤ 9223372036854775807
 t0 : -9223372036854775808 ≤ k.theirs
 t1 : k.theirs ≤ 9223372036854775807
 b0 : -9223372036854775808 ≤ k.born
 b1 : k.born ≤ 9223372036854775807
 c0 : -9223372036854775808 ≤ k.counter
 c1 : k.counter ≤ 9223372036854775807
 s0 : k.send.size ≤ 140737488351232
 s1 : k.take.size ≤ 140737488351232
theorem KY0.ok : KY0.OK := by constructor <;> decide
noncomputable def KY.zero (k : KY) : Bool := eqL k.vals KY0.vals
def KY.bad (k : KY) : Bool := (((((((decide (k.mine < 1) || decide (4294967295 < k.mine)) || decide (k.theirs < 1)) || decide (4294967295 < k.theirs)) || decide (k.born < 0)) || decide (1099511627776 < k.born)) || decide (k.counter < 0)) || decide (1099511627776 < k.counter))
noncomputable def kE (k : KY) : Int :=
 if k.live = false then (if k.zero = true then 0 else 14)
 else if keyE k.send ≠ 0 then keyE k.send else if keyE k.take ≠ 0 then keyE k.take else if k.bad = true then 4 else zbk k.ss k.sl k.sb
theorem kE_live {k : KY} (h : kE k = 0) (hl : k.live = true) : keyE k.send = 0 ∧ keyE k.take = 0 ∧ k.bad = false ∧ zbk k.ss k.sl k.sb = 0 := by
 unfold kE at h
 rw [if_neg (by simp [hl])] at h
 by_cases h1 : keyE k.send = 0
 ·rw [if_neg (by simp [h1])] at h
  by_cases h2 : keyE k.take = 0
  ·rw [if_neg (by simp [h2])] at h
   by_cases h3 : k.bad = true
   ·rw [if_pos h3] at h; omega
   ·rw [if_neg h3] at h
    exact ⟨h1, h2, by simpa using h3, h⟩
  ·rw [if_pos h2] at h; exact absurd h h2
 ·rw [if_pos h1] at h; exact absurd h h1
theorem zgX {k : KY} (h : kE k = 0) (hl : k.live = true) : 1 ≤ k.mine ∧ k.mine ≤ 4294967295 ∧ 1 ≤ k.theirs ∧ k.theirs ≤ 4294967295 ∧ 0 ≤ k.counter ∧ k.counter ≤ 1099511627776 ∧ 0 ≤ k.born ∧ k.born ≤ 1099511627776 := by
 have h3 := (kE_live h hl).2.2.1
 unfold KY.bad at h3
 simp at h3
 omega
theorem KY.eqL_iff {a b : KY} : eqL a.vals b.vals = true ↔ a = b := by
 rw [zaQ]
 constructor
 ·intro h
  cases a; cases b
  simpa [KY.vals] using h
 ·intro h; rw [h]
theorem KY.zero_iff {k : KY} : k.zero = true ↔ k = KY0 := KY.eqL_iff
theorem kcheck_s (k : KY) (ok : k.OK) : Fn prog 94 [.agg k.cells] (.p (.v (.int .i64 (kE k)))) [] := by
 have hW := winCheck_s k.ss k.sl k.sb ok.sb0 ok.sb1 ok.sl0 ok.sl1
 refine fnI fun w0 A => ?_
 refine G [12, 9, 0] ?_
 refine cX (fun h => ?_) fun h => ?_
 ·exact jaz
 have hl : k.live = true := by simpa using h
 clear h
 have hE : kE k = if keyE k.send ≠ 0 then keyE k.send else if keyE k.take ≠ 0 then keyE k.take else if k.bad = true then 4 else zbk k.ss k.sl k.sb := by unfold kE; rw [if_neg (by simp [hl])]
 rw [hE]
 refine G [8] ?_
 refine zaa (xs := [.p (.v (.string k.send)), .p (.v (.string k.take))]) (zcV (es := [.p (.v (.string k.send)), .p (.v (.string k.take))]) underlying158 zr158 rfl sz9 (by kernel_rfl)) (by first | rfl | kernel_rfl) rfl ?_
 refine G [3] ?_
 refine zag (fun m st => ∃ i : Nat, m + i = 2 ∧ (1 ≤ i → keyE k.send = 0) ∧ (2 ≤ i → keyE k.take = 0) ∧ st = St.of [(1, .ref 1 0), (16, .agg [.p (.v (.string k.send)), .p (.v (.string k.take))]), (17, .p (.v (.int .i64 i)))] [(1, .box 49 k.cells)]) 2 ?_ ?_
 ·refine ⟨_, zah id _ _ ?_ ?_ rfl, 0, by omega, by omega, by omega, rfl⟩
  ·exact jak
  ·exact ⟨⟨rfl, rfl⟩, trivial⟩
 rintro m st ⟨i, hi, hi1, hi2, rfl⟩
 refine G [5] ?_
 refine cX (fun h => ?_) fun h => ?_
 ·have hlt : i < 2 := by simp at h; omega
  clear h
  obtain ⟨x, hx, hxa, hxb⟩ : ∃ x : ByteArray, [AV.p (.v (.string k.send)), AV.p (.v (.string k.take))][i]? = some (.p (.v (.string x))) ∧ (i = 0 → x = k.send) ∧ (i = 1 → x = k.take) := by
   match i, hlt with
   | 0, _ => exact ⟨k.send, rfl, fun _ => rfl, by omega⟩
   | 1, _ => exact ⟨k.take, rfl, by omega, fun _ => rfl⟩
  refine G [5] ?_
  refine jc3 ?_
  refine G [5] ?_
  refine cV (zbf x) ?_
  refine jcq ?_
  refine cX (fun h => ?_) fun h => ?_
  ·have hne : keyE x ≠ 0 := by simpa using h
   have hE2 : (if keyE k.send ≠ 0 then keyE k.send else if keyE k.take ≠ 0 then keyE k.take else if k.bad = true then 4 else zbk k.ss k.sl k.sb) = keyE x := by
    match i, hlt with
    | 0, _ => rw [hxa rfl] at hne ⊢; rw [if_pos hne]
    | 1, _ => rw [hxb rfl] at hne ⊢; rw [if_neg (by simp [hi1 (by omega)]), if_pos hne]
   rw [hE2]
   refine jcs ?_
   exact yE
  ·have he : keyE x = 0 := by simpa using h
   refine jct ?_
   refine ⟨m - 1, by omega, _, zah id _ _ ?_ ?_ rfl, i + 1, by omega, ?_, ?_, rfl⟩
   ·exact jak
   ·exact ⟨⟨rfl, rfl⟩, trivial⟩
   ·intro _
    by_cases h0 : i = 0
    ·rw [← hxa h0]; exact he
    ·exact hi1 (by omega)
   ·intro _
    rw [← hxb (by omega)]; exact he
 have hge : i = 2 := by simp at h; omega
 clear h
 subst hge
 have ha := hi1 (by omega)
 have hb := hi2 (by omega)
 rw [if_neg (by simp [ha]), if_neg (by simp [hb])]
 clear hE
 refine G [11, 2, 4, 2, 4, 2, 4, 2, 4, 2, 4, 2, 4, 2, 1, 9, 0] ?_
 refine cX (fun h => ?_) fun h => ?_
 ·have h' : k.bad = true := h
  rw [if_pos h']
  refine jct ?_
  exact yE
 ·have h' : k.bad = false := h
  rw [if_neg (by simp [h'])]
  refine G [5] ?_
  refine cV hW ?_
  refine jcJ ?_
  exact yE
theorem idx_s (n : Int) : Fn prog 148 [.p (.v (.int .i64 n))] (.p (.v (.bool (decide (0 < n) && decide (n < 4294967296))))) [] := by
 refine fnI fun w0 A => ?_
 refine G [11, 2, 3, 9, 0] ?_
 exact yE
theorem refKFault_s (k : KY) (ok : k.OK) : Fn prog 114 [.agg k.cells] (.p (.v (.int .i64 (kE k)))) [] := by
 have hW := refWinFault_s k.ss k.sl k.sb ok.sb0 ok.sb1 ok.sl0 ok.sl1
 refine fnI fun w0 A => ?_
 refine G [12, 9, 0] ?_
 refine cX (fun h => ?_) fun h => ?_
 ·exact jaz
 have hl : k.live = true := by simpa using h
 clear h
 have hE : kE k = if keyE k.send ≠ 0 then keyE k.send else if keyE k.take ≠ 0 then keyE k.take else if k.bad = true then 4 else zbk k.ss k.sl k.sb := by unfold kE; rw [if_neg (by simp [hl])]
 rw [hE]
 refine G [6] ?_
 refine cV (za9 k.send) ?_
 refine jcq ?_
 refine cX (fun h => ?_) fun h => ?_
 ·have hne : keyE k.send ≠ 0 := by simpa using h
  rw [if_pos hne]
  refine jcs ?_
  exact yE
 have ha : keyE k.send = 0 := by simpa using h
 clear h
 rw [if_neg (by simp [ha])]
 refine G [6] ?_
 refine cV (za9 k.take) ?_
 refine jcq ?_
 refine cX (fun h => ?_) fun h => ?_
 ·have hne : keyE k.take ≠ 0 := by simpa using h
  rw [if_pos hne]
  refine jcs ?_
  exact yE
 have hb : keyE k.take = 0 := by simpa using h
 clear h
 rw [if_neg (by simp [hb])]
 clear hE
 have hbad2 : k.bad = ((((((!(decide (0 < k.mine) && decide (k.mine < 4294967296))) || (!(decide (0 < k.theirs) && decide (k.theirs < 4294967296)))) || decide (k.born < 0)) || decide (1099511627776 < k.born)) || decide (k.counter < 0)) || decide (1099511627776 < k.counter)) := by
  unfold KY.bad
  rw [Bool.eq_iff_iff]
  simp
  omega
 refine G [11] ?_
 refine cV (idx_s k.mine) ?_
 refine G [2] ?_
 refine mb2 _ rfl rfl (fun hb => (zav (r := .fn _ _))) (fun _ => trivial) ?_
 refine G [2] ?_
 refine mb2 _ rfl rfl (fun _ => zbc func148 rfl rfl (idx_s k.theirs) (by first | rfl | simp [AV.okInL, AV.okIn, zay]) rfl) (fun _ => trivial) ?_
 refine G [1, 2, 4, 2, 4, 2, 4, 2, 4, 2, 1, 9, 0] ?_
 refine cX (fun h => ?_) fun h => ?_
 ·have h' : k.bad = true := hbad2.trans h
  rw [if_pos h']
  refine jct ?_
  exact yE
 ·have h' : k.bad = false := hbad2.trans h
  rw [if_neg (by simp [h'])]
  refine G [5] ?_
  refine cV hW ?_
  refine jcJ ?_
  exact yE
end Go.Proofs.YtbjdjclkbjpebaaGreatDoor
namespace Go.Proofs.YtbjdjclkbjpebaaGreatDoor
open Go.RowKit Go.Sort
set_option linter.unusedVariables false
set_option linter.unusedSimpArgs false
set_option maxRecDepth 100000
theorem KY.of_ty {n : Nat} {ps : List PV} (h : Ty Tryz.prog (n + 3) 49 ps) : ∃ k : KY, k.OK ∧ ps = k.pv := by
 obtain ⟨_, rfl, x0, _, rfl, t0, x1, _, rfl, t1, x2, _, rfl, t2, x3, _, rfl, t3, x4, _, rfl, t4, x5, _, rfl, t5, x6, _, rfl, t6, x7, _, rfl, t7, x8, _, rfl, t8, rfl⟩ := zbh (ts := [4, 9, 9, 3, 3, 3, 3, 47, 4]) (by kernel_rfl) h
 obtain ⟨_, rfl, y0, _, rfl, u0, y1, _, rfl, u1, y2, _, rfl, u2, rfl⟩ := zbh (ts := [4, 3, 45]) (by kernel_rfl) t7
 obtain ⟨a0, rfl⟩ := zgv U4 t0
 obtain ⟨a1, rfl, w1⟩ := zbJ U9 t1
 obtain ⟨a2, rfl, w2⟩ := zbJ U9 t2
 obtain ⟨a3, rfl, w3⟩ := zbm U3 t3
 obtain ⟨a4, rfl, w4⟩ := zbm U3 t4
 obtain ⟨a5, rfl, w5⟩ := zbm U3 t5
 obtain ⟨a6, rfl, w6⟩ := zbm U3 t6
 obtain ⟨a8, rfl⟩ := zgv U4 t8
 obtain ⟨b0, rfl⟩ := zgv U4 u0
 obtain ⟨b1, rfl, v1⟩ := zbm U3 u1
 obtain ⟨b2, rfl, v2⟩ := zbm Tryz.underlying45 u2
 refine ⟨⟨a0, a1, a2, a3, a4, a5, a6, b0, b1, b2, a8⟩, ?_, rfl⟩
 have := ze9 w3; have := ze9 w4; have := ze9 w5; have := ze9 w6; have := ze9 v1; have := wf_u64 v2
 exact jck
structure HS where
 lv : Bool
 mine : Int
 nc : ByteArray
 b : Int
 s : Int
def HS.cells (x : HS) : List AV := [.p (.v (.bool x.lv)), .p (.v (.int .i64 x.mine)), .p (.v (.string x.nc)), .p (.v (.int .i64 x.b)), .p (.v (.int .i64 x.s))]
def HS.pv (x : HS) : List PV := [.v (.bool x.lv), .v (.int .i64 x.mine), .v (.string x.nc), .v (.int .i64 x.b), .v (.int .i64 x.s)]
theorem HS.of_ty {n : Nat} {ps : List PV} (h : Ty Tryz.prog (n + 3) 53 ps) : ∃ x : HS, -9223372036854775808 ≤ x.mine ∧ x.mine ≤ 9223372036854775807 ∧ x.nc.size ≤ 140737488351232 ∧ ps = x.pv := by
 obtain ⟨_, rfl, x0, _, rfl, t0, x1, _, rfl, t1, x2, _, rfl, t2, x3, _, rfl, t3, x4, _, rfl, t4, rfl⟩ := zbh (ts := [4, 3, 9, 3, 3]) (by kernel_rfl) h
 obtain ⟨a0, rfl⟩ := zgv U4 t0
 obtain ⟨a1, rfl, w1⟩ := zbm U3 t1
 obtain ⟨a2, rfl, w2⟩ := zbJ U9 t2
 obtain ⟨a3, rfl, w3⟩ := zbm U3 t3
 obtain ⟨a4, rfl, w4⟩ := zbm U3 t4
 obtain ⟨q0, q1⟩ := ze9 w1
 exact ⟨⟨a0, a1, a2, a3, a4⟩, q0, q1, w2, rfl⟩
end Go.Proofs.YtbjdjclkbjpebaaGreatDoor
