/- What the small functions of package net, and the references of them, compute: contracts. -/
import Derived.Test.YtcjnecmgificmaaGreatDoorProg
import Derived.Test.YtcjnecmgificmaaGreatDoorLib
import Derived.WalkKit
import Derived.Deep.QuietTactic
import Derived.BigQuiet
namespace Go.Proofs.YtcjnecmgificmaaGreatDoor
open Go.RowKit

def maskI (n : Int) : Int := 4294967296 - 2 ^ (32 - n).toNat

theorem maskI_raw (n : Int) (h0 : 0 ≤ n) (h1 : n ≤ 32) : 4294967295 * 2 ^ (32 - n).toNat % 4294967296 = maskI n := by
  unfold maskI
  rcases (show ∃ k : Nat, k ≤ 32 ∧ n = 32 - k from ⟨(32 - n).toNat, by omega, by omega⟩) with ⟨k, hk, rfl⟩
  have e : (32 - (32 - (k : Int))).toNat = k := by omega
  rw [e]
  have hp : (2 : Int) ^ k ≤ 4294967296 := by
    rw [pow_cast]; have := Nat.pow_le_pow_right (show 0 < 2 by decide) hk; omega
  have hq := pow_pos' k
  generalize (2 : Int) ^ k = p at hp hq
  omega

theorem maskI_bd (n : Int) (h0 : 0 ≤ n) (h1 : n ≤ 32) : 0 ≤ maskI n ∧ maskI n ≤ 4294967295 := by
  rw [← maskI_raw n h0 h1]; omega

theorem mask_c (n : Int) (w : World) (h0 : 0 ≤ n) (h1 : n ≤ 32) :
    Calls Tryz.prog 78 #[.int .i64 n] w fun e w' => e = .returned (.int .u32 (maskI n)) ∧ w = w' := by
  go_enter Tryz.func78, Tryz.ntmps78
  go_wp2
  go_ret
  exact ⟨ret_int (maskI_raw n h0 h1), rfl⟩

def bitI (a i : Int) : Int := a / 2 ^ (31 - i).toNat % 2

theorem bits_and_one (x : Int) (h0 : 0 ≤ x) (h1 : x < 4294967296) : bits .and .u32 x 1 = x % 2 :=
  u32_and_mod x 1 h0 h1 (by omega)

theorem shr_bd (a : Int) (k : Nat) (h2 : 0 ≤ a) (h3 : a < 4294967296) : 0 ≤ a / 2 ^ k ∧ a / 2 ^ k < 4294967296 := by
  obtain ⟨b, rfl⟩ := Int.eq_ofNat_of_zero_le h2
  rw [pow_cast]
  have h := Nat.div_le_self b (2 ^ k)
  have e : (b : Int) / ((2 ^ k : Nat) : Int) = ((b / 2 ^ k : Nat) : Int) := by simp
  rw [e]
  generalize b / 2 ^ k = c at h
  omega

theorem bit_c (a i : Int) (w : World) (h0 : 0 ≤ i) (h1 : i ≤ 31) (h2 : 0 ≤ a) (h3 : a < 4294967296) :
    Calls Tryz.prog 83 #[.int .u32 a, .int .i64 i] w fun e w' => e = .returned (.int .u32 (bitI a i)) ∧ w = w' := by
  go_enter Tryz.func83, Tryz.ntmps83
  go_wp2
  go_ret
  have h := shr_bd a (31 - i).toNat h2 h3
  exact ⟨ret_int (bits_and_one _ h.1 h.2), rfl⟩

/-- what Check of a net answers -/
def netFault (a n : Int) : Int := if n < 0 ∨ 32 < n then 4 else if a % 2 ^ (32 - n).toNat = 0 then 0 else 3

theorem andNot_mask (a n : Int) (h0 : 0 ≤ n) (h1 : n ≤ 32) (h2 : 0 ≤ a) (h3 : a < 4294967296) : bits .andNot .u32 a (maskI n) = a % 2 ^ (32 - n).toNat := by
  have hb := maskI_bd n h0 h1
  have hq := pow_pos' (32 - n).toNat
  have e : (4294967295 - maskI n) = 2 ^ (32 - n).toNat - 1 := by unfold maskI; omega
  have h := u32_and_mod a (32 - n).toNat h2 h3 (by omega)
  rw [← h, ← e, u32_andNot a _ h2 h3 hb.1 (by omega), u32_and a _ h2 h3 (by omega) (by omega)]
  congr 2
  omega

theorem check_c (a n : Int) (w : World) (h2 : 0 ≤ a) (h3 : a < 4294967296) :
    Calls Tryz.prog 47 #[.agg #[.int .u32 a, .int .i64 n]] w fun e w' => e = .returned (.int .i64 (netFault a n)) ∧ Below w.heap.size w w' := by
  by_cases hn : n < 0 ∨ 32 < n
  · have hf : netFault a n = 4 := by unfold netFault; rw [if_pos hn]
    have HF := Lib.hid hf
    clear hf
    rcases (show n < 0 ∨ (0 ≤ n ∧ 32 < n) by omega) with h | ⟨ha, hb⟩
    all_goals
      clear hn
      go_enter Tryz.func47, Tryz.ntmps47
      go_wp2_with fail
      go_ret
      exact ⟨ret_int HF.out.symm, (Below.refl _ _).alloc (Nat.le_refl _) _⟩
  · have ha : 0 ≤ n := by omega
    have hb : n ≤ 32 := by omega
    have HF := Lib.hid (show netFault a n = if a % 2 ^ (32 - n).toNat = 0 then 0 else 3 by unfold netFault; rw [if_neg hn])
    have HA := Lib.hid (andNot_mask a n ha hb h2 h3)
    clear hn
    go_enter Tryz.func47, Tryz.ntmps47
    go_wp2_with fail
    go_quiet ((go_at_call 78; exact Calls.quiet_of_same ((mask_c n _ ha hb).mono fun _ _ h => ⟨h.1, h.2.symm⟩)))
    rw [HA.out]
    go_wp2
    · have ht : (a % 2 ^ (32 - n).toNat != 0) = true := by assumption
      go_ret
      exact ⟨ret_int (by rw [HF.out, if_neg (by simpa using ht)]), below_drewN ((Below.refl _ _).alloc (Nat.le_refl _) _) _⟩
    · have ht : (a % 2 ^ (32 - n).toNat != 0) = false := by assumption
      go_ret
      exact ⟨ret_int (by rw [HF.out, if_pos (by simpa using ht)]), below_drewN ((Below.refl _ _).alloc (Nat.le_refl _) _) _⟩

/-- the first n bits of an address -/
def topI (a n : Int) : Int := a - a % 2 ^ (32 - n).toNat

theorem and_mask (a n : Int) (h0 : 0 ≤ n) (h1 : n ≤ 32) (h2 : 0 ≤ a) (h3 : a < 4294967296) : bits .and .u32 a (maskI n) = topI a n := by
  have hb := maskI_bd n h0 h1
  have h := andNot_mask a n h0 h1 h2 h3
  unfold topI
  rw [← h, u32_andNot a _ h2 h3 hb.1 (by omega), u32_and a _ h2 h3 hb.1 (by omega)]
  obtain ⟨x, rfl⟩ := Int.eq_ofNat_of_zero_le h2
  obtain ⟨m, hm⟩ := Int.eq_ofNat_of_zero_le hb.1
  rw [hm]
  have hm1 : m ≤ 4294967295 := by omega
  have hx : x < 4294967296 := by omega
  simp only [Int.toNat_natCast]
  have key : x &&& m = x - (x &&& (4294967295 - m)) := by
    have : BitVec.ofNat 32 x &&& BitVec.ofNat 32 m = BitVec.ofNat 32 x - (BitVec.ofNat 32 x &&& ~~~ (BitVec.ofNat 32 m)) := by
      generalize BitVec.ofNat 32 x = A
      generalize BitVec.ofNat 32 m = B
      have hd : A = (A &&& B) + (A &&& ~~~B) := by
        rw [BitVec.add_eq_or_of_and_eq_zero]
        · ext i hi; simp only [BitVec.getElem_or, BitVec.getElem_and, BitVec.getElem_not]; cases A[i] <;> cases B[i] <;> rfl
        · ext i hi; simp only [BitVec.getElem_and, BitVec.getElem_not, BitVec.getElem_zero]; cases A[i] <;> cases B[i] <;> rfl
      have : A - (A &&& ~~~B) = (A &&& B) := by
        conv => lhs; arg 1; rw [hd]
        exact BitVec.add_sub_cancel _ _
      exact this.symm
    have h := congrArg BitVec.toNat this
    rw [BitVec.toNat_sub, BitVec.toNat_and, BitVec.toNat_and, BitVec.toNat_not] at h
    simp only [BitVec.toNat_ofNat] at h
    rw [Nat.mod_eq_of_lt (show x < 2 ^ 32 by omega), Nat.mod_eq_of_lt (show m < 2 ^ 32 by omega)] at h
    have e : 2 ^ 32 - 1 - m = 4294967295 - m := by omega
    rw [e] at h
    have hle : x &&& (4294967295 - m) ≤ x := Nat.and_le_left
    rw [h]
    omega
  have hle : x &&& (4294967295 - m) ≤ x := Nat.and_le_left
  rw [key]
  omega

theorem topI_bd (a n : Int) (h2 : 0 ≤ a) : 0 ≤ topI a n ∧ topI a n ≤ a := by
  unfold topI
  have hq := pow_pos' (32 - n).toNat
  have h1 := Int.emod_nonneg a (show (2 : Int) ^ (32 - n).toNat ≠ 0 by omega)
  have h3 : a % 2 ^ (32 - n).toNat ≤ a := by
    obtain ⟨x, rfl⟩ := Int.eq_ofNat_of_zero_le h2
    rw [pow_cast]
    exact_mod_cast Nat.mod_le x (2 ^ (32 - n).toNat)
  omega

def ofA (a n : Int) : Int := if n < 0 ∨ 32 < n then 0 else topI a n
def ofN (n : Int) : Int := if n < 0 ∨ 32 < n then 0 else n
def ofE (n : Int) : Int := if n < 0 ∨ 32 < n then 4 else 0

end Go.Proofs.YtcjnecmgificmaaGreatDoor
