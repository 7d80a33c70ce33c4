/- What Has, Holds of package net, and NetFault, NetOf, NetHas, NetHolds of its reference, compute: contracts. -/
import Derived.Test.YtcjnecmgificmaaGreatDoorNetA
import Derived.StillTailTactics
namespace Go.Proofs.YtcjnecmgificmaaGreatDoor
open Go.RowKit Go.Sort

/-- is an address in a net -/
def netHas (a n x : Int) : Bool := decide (netFault a n = 0 ∧ topI x n = a)
def netHolds (a n b m : Int) : Bool := decide (netFault b m = 0 ∧ n ≤ m) && netHas a n b

theorem netFault_ok {a n : Int} (h : netFault a n = 0) : 0 ≤ n ∧ n ≤ 32 ∧ a % 2 ^ (32 - n).toNat = 0 := by
  unfold netFault at h
  split at h
  · simp at h
  · split at h
    · exact ⟨by omega, by omega, by assumption⟩
    · simp at h

theorem check_g (a n : Int) (h2 : 0 ≤ a) (h3 : a < 4294967296) : Gives Tryz.prog 47 #[.agg #[.int .u32 a, .int .i64 n]] (.int .i64 (netFault a n)) :=
  fun w => check_c a n w h2 h3
theorem mask_g (n : Int) (h0 : 0 ≤ n) (h1 : n ≤ 32) : Gives Tryz.prog 78 #[.int .i64 n] (.int .u32 (maskI n)) :=
  fun w => (mask_c n w h0 h1).mono fun _ _ h => ⟨h.1, h.2 ▸ Below.refl _ _⟩

theorem low_step (a k : Int) (h0 : 0 ≤ k) (h1 : k ≤ 31) (h2 : 0 ≤ a) : a % 2 ^ (32 - k).toNat = bitI a k * 2 ^ (31 - k).toNat + a % 2 ^ (32 - (k + 1)).toNat := by
  unfold bitI
  obtain ⟨j, hj⟩ : ∃ j : Nat, (31 - k).toNat = j := ⟨_, rfl⟩
  have e1 : (32 - k).toNat = j + 1 := by omega
  have e2 : (32 - (k + 1)).toNat = j := by omega
  rw [e1, e2, hj]
  obtain ⟨x, rfl⟩ := Int.eq_ofNat_of_zero_le h2
  have h := Nat.mod_mul (x := x) (a := 2 ^ j) (b := 2)
  rw [← Nat.pow_succ] at h
  have h' := congrArg (fun n : Nat => (n : Int)) h
  simp only [Int.natCast_emod, Int.natCast_add, Int.natCast_mul, Int.natCast_ediv, Int.natCast_pow] at h'
  have e3 : ((2 : Nat) : Int) = 2 := rfl
  rw [e3] at h'
  rw [h', Int.mul_comm, Int.add_comm]

theorem bitI_01 (a k : Int) : bitI a k = 0 ∨ bitI a k = 1 := by unfold bitI; omega

theorem topI_step (a k : Int) (h0 : 0 ≤ k) (h1 : k ≤ 31) (h2 : 0 ≤ a) : topI a (k + 1) = topI a k + bitI a k * 2 ^ (31 - k).toNat := by
  unfold topI
  rw [low_step a k h0 h1 h2]
  omega

theorem refFault_g (a n : Int) (h2 : 0 ≤ a) (h3 : a < 4294967296) : Gives Tryz.prog 51 #[.agg #[.int .u32 a, .int .i64 n]] (.int .i64 (netFault a n)) := by
  intro w
  by_cases hn : n < 0 ∨ 32 < n
  · have HF := Lib.hid (show netFault a n = 4 by unfold netFault; rw [if_pos hn])
    rcases (show n < 0 ∨ (0 ≤ n ∧ 32 < n) by omega) with h | ⟨ha, hb⟩
    all_goals
      clear hn
      go_enter Tryz.func51, Tryz.ntmps51
      go_wp2_with fail
      go_ret
      exact ⟨ret_int HF.out.symm, by (repeat' (first | exact Below.refl _ _ | assumption | refine bstep ?_ (by assumption) | refine balloc ?_ _ | refine bdrew ?_ | refine bdrewN ?_ _ | refine bset ?_ ?_ _ | (show _ ≤ _; simp; omega) | (simp; done)))⟩
  · have ha : 0 ≤ n := by omega
    have hb : n ≤ 32 := by omega
    have HF := Lib.hid (show netFault a n = if a % 2 ^ (32 - n).toNat = 0 then 0 else 3 by unfold netFault; rw [if_neg hn])
    clear hn
    go_enter Tryz.func51, Tryz.ntmps51
    go_wp2_with fail
    go_loop [3] (fun i => ∃ k : Int, n ≤ k ∧ k ≤ 32 ∧ i = .int .i64 k ∧ Hid (a % 2 ^ (32 - n).toNat = a % 2 ^ (32 - k).toNat)) (fun i => (32 - intOf i).toNat)
    case atStart => exact ⟨n, by omega, by omega, rfl, rfl⟩
    case round =>
      obtain ⟨k, hk1, hk2, rfl, HK⟩ := hrel
      by_cases hlt : k < 32
      · have h0k : 0 ≤ k := by omega
        have h31 : k ≤ 31 := by omega
        have HL := Lib.hid (low_step a k h0k h31 h2)
        rcases bitI_01 a k with hbit | hbit
        · have hd : (bitI a k == 1) = false := by rw [hbit]; rfl
          have HB := Lib.hid hbit
          clear hbit
          go_wp2_with (go_at_call 83; refine (bit_c a k _ h0k h31 h2 h3).mono ?_; rintro e w' ⟨rfl, rfl⟩)
          go_round
          case rel => exact ⟨k + 1, by omega, by omega, by go_num, by show _ = _; rw [HK.out, HL.out, HB.out]; simp⟩
          case measure => simp [intOf]; omega
        · have hd : (bitI a k == 1) = true := by rw [hbit]; rfl
          have HB := Lib.hid hbit
          clear hbit
          go_wp2_with (go_at_call 83; refine (bit_c a k _ h0k h31 h2 h3).mono ?_; rintro e w' ⟨rfl, rfl⟩)
          go_ret
          refine ⟨ret_int ?_, by (repeat' (first | exact Below.refl _ _ | assumption | refine bstep ?_ (by assumption) | refine balloc ?_ _ | refine bdrew ?_ | refine bdrewN ?_ _ | refine bset ?_ ?_ _ | (show _ ≤ _; simp; omega) | (simp; done)))⟩
          rw [HF.out, HK.out, HL.out, HB.out, if_neg]
          have hp := pow_pos' (31 - k).toNat
          have hq := Int.emod_nonneg a (show (2 : Int) ^ (32 - (k + 1)).toNat ≠ 0 from by have := pow_pos' (32 - (k + 1)).toNat; omega)
          omega
      · obtain rfl : k = 32 := by omega
        go_wp2
        go_ret
        exact ⟨ret_int (by rw [HF.out, HK.out]; simp [Int.emod_one]), by (repeat' (first | exact Below.refl _ _ | assumption | refine bstep ?_ (by assumption) | refine balloc ?_ _ | refine bdrew ?_ | refine bdrewN ?_ _ | refine bset ?_ ?_ _ | (show _ ≤ _; simp; omega) | (simp; done)))⟩
end Go.Proofs.YtcjnecmgificmaaGreatDoor
