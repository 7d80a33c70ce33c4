/- Plain facts on nets: masks, faults, what a net holds, the order of nets. The small functions of package net and of its reference, over data. -/
import Derived.Test.YtlfjpippeeikdaaGreatDoorSMa4
set_option linter.all false
namespace Go.Proofs.YtlfjpippeeikdaaGreatDoor
open Tryz
open Go.RowKit Go.Sort
set_option maxRecDepth 100000
def zfo (n : Int) : Int := 4294967296 - 2 ^ (32 - n).toNat
theorem maskI_raw (n : Int) (h0 : 0 ≤ n) (h1 : n ≤ 32) : 4294967295 * 2 ^ (32 - n).toNat % 4294967296 = zfo n := by
 unfold zfo
 rcases (show ∃ k : Nat, k ≤ 32 ∧ n = 32 - k from ⟨(32 - n).toNat, qk, qk⟩) with ⟨k, hk, rfl⟩
 have e : (32 - (32 - (k : Int))).toNat = k := qk
 rw [e]
 have hp : (2 : Int) ^ k ≤ 4294967296 := by
  rw [zbV]; have := qbA (show 0 < 2 by decide) hk; omega
 have hq := zcI k
 generalize (2 : Int) ^ k = p at hp hq
 omega
theorem maskI_bd (n : Int) (h0 : 0 ≤ n) (h1 : n ≤ 32) : 0 ≤ zfo n ∧ zfo n ≤ 4294967295 := by
 rw [← maskI_raw n h0 h1]; omega
theorem mask_c (n : Int) (w : World) (h0 : 0 ≤ n) (h1 : n ≤ 32) :
 Calls prog 109 #[.int .i64 n] w fun e w' => e = .returned (.int .u32 (zfo n)) ∧ w = w' := by
 go_enter func109, ntmps109
 go_wp2
 go_ret
 exact ⟨zcZ (maskI_raw n h0 h1), rfl⟩
def bitI (a i : Int) : Int := a / 2 ^ (31 - i).toNat % 2
theorem zgs (x : Int) (h0 : 0 ≤ x) (h1 : x < 4294967296) : bits .and .u32 x 1 = x % 2 :=
 zgO x 1 h0 h1 qk
theorem shr_bd (a : Int) (k : Nat) (h2 : 0 ≤ a) (h3 : a < 4294967296) : 0 ≤ a / 2 ^ k ∧ a / 2 ^ k < 4294967296 := by
 obtain ⟨b, rfl⟩ := qaU h2
 rw [zbV]
 have h := Nat.div_le_self b (2 ^ k)
 have e : (b : Int) / ((2 ^ k : Nat) : Int) = ((b / 2 ^ k : Nat) : Int) := qz
 rw [e]
 generalize b / 2 ^ k = c at h
 omega
theorem bit_c (a i : Int) (w : World) (h0 : 0 ≤ i) (h1 : i ≤ 31) (h2 : 0 ≤ a) (h3 : a < 4294967296) :
 Calls prog 88 #[.int .u32 a, .int .i64 i] w fun e w' => e = .returned (.int .u32 (bitI a i)) ∧ w = w' := by
 go_enter func88, ntmps88
 go_wp2
 go_ret
 have h := shr_bd a (31 - i).toNat h2 h3
 exact ⟨zcZ (zgs _ h.1 h.2), rfl⟩
def zap (a n : Int) : Int := if n < 0 ∨ 32 < n then 4 else if a % 2 ^ (32 - n).toNat = 0 then 0 else 3
theorem zhx (a n : Int) (h0 : 0 ≤ n) (h1 : n ≤ 32) (h2 : 0 ≤ a) (h3 : a < 4294967296) : bits .andNot .u32 a (zfo n) = a % 2 ^ (32 - n).toNat := by
 have hb := maskI_bd n h0 h1
 have hq := zcI (32 - n).toNat
 have e : (4294967295 - zfo n) = 2 ^ (32 - n).toNat - 1 := by unfold zfo; omega
 have h := zgO a (32 - n).toNat h2 h3 qk
 rw [← h, ← e, u32_andNot a _ h2 h3 hb.1 (by omega), u32_and a _ h2 h3 (by omega) (by omega)]
 congr 2
 omega
def topI (a n : Int) : Int := a - a % 2 ^ (32 - n).toNat
theorem and_mask (a n : Int) (h0 : 0 ≤ n) (h1 : n ≤ 32) (h2 : 0 ≤ a) (h3 : a < 4294967296) : bits .and .u32 a (zfo n) = topI a n := by
 have hb := maskI_bd n h0 h1
 have h := zhx a n h0 h1 h2 h3
 unfold topI
 rw [← h, u32_andNot a _ h2 h3 hb.1 (by omega), u32_and a _ h2 h3 hb.1 (by omega)]
 obtain ⟨x, rfl⟩ := qaU h2
 obtain ⟨m, hm⟩ := qaU hb.1
 rw [hm]
 have hm1 : m ≤ 4294967295 := qk
 have hx : x < 4294967296 := qk
 simp only [qaS]
 have key : x &&& m = x - (x &&& (4294967295 - m)) := by
  have : BitVec.ofNat 32 x &&& BitVec.ofNat 32 m = BitVec.ofNat 32 x - (BitVec.ofNat 32 x &&& ~~~ (BitVec.ofNat 32 m)) := by
   generalize BitVec.ofNat 32 x = A
   generalize BitVec.ofNat 32 m = B
   have hd : A = (A &&& B) + (A &&& ~~~B) := by
    rw [BitVec.add_eq_or_of_and_eq_zero]
    ·ext i hi; simp only [BitVec.getElem_or, BitVec.getElem_and, BitVec.getElem_not]; cases A[i] <;> cases B[i] <;> rfl
    ·ext i hi; simp only [BitVec.getElem_and, BitVec.getElem_not, BitVec.getElem_zero]; cases A[i] <;> cases B[i] <;> rfl
   have : A - (A &&& ~~~B) = (A &&& B) := by
    conv => lhs; arg 1; rw [hd]
    exact BitVec.add_sub_cancel _ _
   exact this.symm
  have h := congrArg BitVec.toNat this
  rw [BitVec.toNat_sub, BitVec.toNat_and, BitVec.toNat_and, BitVec.toNat_not] at h
  simp only [BitVec.toNat_ofNat] at h
  rw [Nat.mod_eq_of_lt (show x < 2 ^ 32 by omega), Nat.mod_eq_of_lt (show m < 2 ^ 32 by omega)] at h
  have e : 2 ^ 32 - 1 - m = 4294967295 - m := qk
  rw [e] at h
  have hle : x &&& (4294967295 - m) ≤ x := Nat.and_le_left
  rw [h]
  omega
 have hle : x &&& (4294967295 - m) ≤ x := Nat.and_le_left
 rw [key]
 omega
theorem zfK (a n : Int) (h2 : 0 ≤ a) : 0 ≤ topI a n ∧ topI a n ≤ a := by
 unfold topI
 have hq := zcI (32 - n).toNat
 have h1 := Int.emod_nonneg a (show (2 : Int) ^ (32 - n).toNat ≠ 0 by omega)
 have h3 : a % 2 ^ (32 - n).toNat ≤ a := by
  obtain ⟨x, rfl⟩ := qaU h2
  rw [zbV]
  exact_mod_cast Nat.mod_le x (2 ^ (32 - n).toNat)
 omega
def zc4 (a n x : Int) : Bool := decide (zap a n = 0 ∧ topI x n = a)
def zby (a n b m : Int) : Bool := decide (zap b m = 0 ∧ n ≤ m) && zc4 a n b
theorem zb5 {a n : Int} (h : zap a n = 0) : 0 ≤ n ∧ n ≤ 32 ∧ a % 2 ^ (32 - n).toNat = 0 := by
 unfold zap at h
 split at h
 ·simp at h
 ·split at h
  ·exact ⟨qk, qk, qP⟩
  ·simp at h
theorem low_step (a k : Int) (h0 : 0 ≤ k) (h1 : k ≤ 31) (h2 : 0 ≤ a) : a % 2 ^ (32 - k).toNat = bitI a k * 2 ^ (31 - k).toNat + a % 2 ^ (32 - (k + 1)).toNat := by
 unfold bitI
 obtain ⟨j, hj⟩ : ∃ j : Nat, (31 - k).toNat = j := ⟨_, rfl⟩
 have e1 : (32 - k).toNat = j + 1 := qk
 have e2 : (32 - (k + 1)).toNat = j := qk
 rw [e1, e2, hj]
 obtain ⟨x, rfl⟩ := qaU h2
 have h := Nat.mod_mul (x := x) (a := 2 ^ j) (b := 2)
 rw [← qb5] at h
 have h' := congrArg (fun n : Nat => (n : Int)) h
 simp only [Int.natCast_emod, Int.natCast_add, Int.natCast_mul, Int.natCast_ediv, Int.natCast_pow] at h'
 have e3 : ((2 : Nat) : Int) = 2 := rfl
 rw [e3] at h'
 rw [h', Int.mul_comm, Int.add_comm]
theorem bitI_01 (a k : Int) : bitI a k = 0 ∨ bitI a k = 1 := by unfold bitI; omega
theorem topI_step (a k : Int) (h0 : 0 ≤ k) (h1 : k ≤ 31) (h2 : 0 ≤ a) : topI a (k + 1) = topI a k + bitI a k * 2 ^ (31 - k).toNat := by
 unfold topI
 rw [low_step a k h0 h1 h2]
 omega
def ord3 (a b : Int) : Int := if a < b then -1 else if b < a then 1 else 0
def zbD (a n b m : Int) : Int := if a = b then ord3 n m else ord3 a b
theorem cmpU_g (a b : Int) : Gives prog 150 #[.int .u32 a, .int .u32 b] (.int .i64 (ord3 a b)) := by
 intro w
 have HE := Lib.hid (show ord3 a b = if a < b then -1 else if b < a then 1 else 0 from rfl)
 go_enter func150, ntmps150
 go_wp2
 all_goals (go_ret; exact ⟨zcZ qak, by (repeat' (first | exact Below.refl _ _ | assumption | refine ziD ?_ qP | refine zfD ?_ _ | refine ziE ?_ | refine zfC ?_ _ | refine bset ?_ ?_ _ | (show _ ≤ _; simp; omega) | (simp; done)))⟩)
theorem cmpI_g (a b : Int) : Gives prog 151 #[.int .i64 a, .int .i64 b] (.int .i64 (ord3 a b)) := by
 intro w
 have HE := Lib.hid (show ord3 a b = if a < b then -1 else if b < a then 1 else 0 from rfl)
 go_enter func151, ntmps151
 go_wp2
 all_goals (go_ret; exact ⟨zcZ qak, by (repeat' (first | exact Below.refl _ _ | assumption | refine ziD ?_ qP | refine zfD ?_ _ | refine ziE ?_ | refine zfC ?_ _ | refine bset ?_ ?_ _ | (show _ ≤ _; simp; omega) | (simp; done)))⟩)
def or2 (x y : Int) : Int := if x = 0 then y else x
def netA (a n : Int) : List AV := [qe a, qd n]
theorem nmask_s (n : Int) (h0 : 0 ≤ n) (h1 : n ≤ 32) : Fn prog 109 [qd n] (qe (zfo n)) [] :=
 zgH (P := prog) (f := 109) [.int .i64 n] (r := .int .u32 (zfo n)) rfl fun w => (mask_c n w h0 h1).mono fun _ _ h => ⟨h.1, h.2.symm⟩
theorem nbit_s (a i : Int) (h0 : 0 ≤ i) (h1 : i ≤ 31) (h2 : 0 ≤ a) (h3 : a < 4294967296) : Fn prog 88 [qe a, qd i] (qe (bitI a i)) [] :=
 zgH (P := prog) (f := 88) [.int .u32 a, .int .i64 i] (r := .int .u32 (bitI a i)) rfl fun w => (bit_c a i w h0 h1 h2 h3).mono fun _ _ h => ⟨h.1, h.2.symm⟩
theorem zcK (a n : Int) (h2 : 0 ≤ a) (h3 : a < 4294967296) : Fn prog 75 [.agg (netA a n)] (qd (zap a n)) [] := by
 obtain ⟨E, hE⟩ : ∃ E, zap a n = E := ⟨_, rfl⟩
 rw [hE]
 unfold zap at hE
 refine fnI fun w0 A => ?_
 refine G [15, 2, 1, 9, 0] ?_
 refine cX ?_ ?_ <;> intro h
 ·rw [if_pos (by simpa using h)] at hE
  subst hE
  refine G [5, 9, 0] ?_
  exact yE
 have h1 : ¬ (n < 0 ∨ 32 < n) := by simp at h; omega
 clear h
 rw [if_neg h1] at hE
 have hM := nmask_s n qk qk
 have hA := zhx a n qk qk h2 h3
 generalize zfo n = m at *
 generalize a % 2 ^ (32 - n).toNat = r at *
 refine G [8] ?_
 refine cK hM ?_
 refine zaa (zgu qz hA) rfl rfl ?_
 refine G [2, 9, 0] ?_
 refine cX ?_ ?_ <;> intro h
 ·rw [if_neg (by simpa using h)] at hE
  subst hE
  refine G [5, 9, 0] ?_
  exact yE
 rw [if_pos (by simpa using h)] at hE
 subst hE
 refine G [6, 9, 0] ?_
 exact yE
theorem nHas_s (a n x : Int) (h2 : 0 ≤ a) (h3 : a < 4294967296) (h4 : 0 ≤ x) (h5 : x < 4294967296) : Fn prog 154 [.agg (netA a n), qe x] (qf (zc4 a n x)) [] := by
 have hC := zcK a n h2 h3
 by_cases hf : zap a n = 0
 ·rw [show zc4 a n x = (topI x n == a) by rw [qbm]; unfold zc4; simp [hf]]
  rw [hf] at hC
  obtain ⟨k0, k1, _⟩ := zb5 hf
  have hM := nmask_s n k0 k1
  have hA := and_mask x n k0 k1 h4 h5
  clear hf
  generalize zfo n = m at *
  generalize topI x n = t at *
  refine fnI fun w0 A => ?_
  refine G [8] ?_
  refine cK hC ?_
  refine G [0, 1, 4] ?_
  refine cK hM ?_
  refine zaa (zgu qz hA) rfl rfl ?_
  refine G [7, 9, 0] ?_
  exact yE
 ·rw [show zc4 a n x = false by unfold zc4; simp [hf]]
  generalize zap a n = e at *
  refine fnI fun w0 A => ?_
  refine G [8] ?_
  refine cK hC ?_
  refine G [0, 3, 13, 9, 0] ?_
  exact yE
theorem nHolds_s (a n b m : Int) (h2 : 0 ≤ a) (h3 : a < 4294967296) (h4 : 0 ≤ b) (h5 : b < 4294967296) : Fn prog 110 [.agg (netA a n), .agg (netA b m)] (qf (zby a n b m)) [] := by
 have hC := zcK b m h4 h5
 have hH := nHas_s a n b h2 h3 h4 h5
 by_cases hf : zap b m = 0
 ·rw [hf] at hC
  by_cases hle : n ≤ m
  ·rw [show zby a n b m = zc4 a n b by unfold zby; simp [hf, hle]]
   clear hf
   generalize zc4 a n b = r at *
   refine fnI fun w0 A => ?_
   refine G [9] ?_
   refine cK hC ?_
   refine G [0, 1, 5, 4, 5] ?_
   refine cK hH ?_
   refine G [4, 9, 0] ?_
   exact yE
  ·rw [show zby a n b m = false by unfold zby; simp [hle]]
   clear hf
   refine fnI fun w0 A => ?_
   refine G [9] ?_
   refine cK hC ?_
   refine G [0, 1, 5, 3, 10, 9, 0] ?_
   exact yE
 ·rw [show zby a n b m = false by unfold zby; simp [hf]]
  generalize zap b m = e at *
  refine fnI fun w0 A => ?_
  refine G [9] ?_
  refine cK hC ?_
  refine G [0, 3, 16, 9, 0] ?_
  exact yE
theorem nOf_s (a n : Int) (h0 : 0 ≤ n) (h1 : n ≤ 32) (h2 : 0 ≤ a) (h3 : a < 4294967296) : Fn prog 155 [qe a, qd n] (.tup [.agg (netA (topI a n) n), qd 0]) [] := by
 have hM := nmask_s n h0 h1
 have hA := and_mask a n h0 h1 h2 h3
 generalize zfo n = m at *
 generalize topI a n = t at *
 refine fnI fun w0 A => ?_
 refine G [9, 3, 2, 3, 8] ?_
 refine cK hM ?_
 refine zaa (zgu qz hA) rfl rfl ?_
 refine G [6, 9, 0] ?_
 exact yE
theorem zdD (a n : Int) (h2 : 0 ≤ a) (h3 : a < 4294967296) : Fn prog 116 [.agg (netA a n)] (qd (zap a n)) [] := by
 obtain ⟨E, hE⟩ : ∃ E, zap a n = E := ⟨_, rfl⟩
 rw [hE]
 unfold zap at hE
 refine fnI fun w0 A => ?_
 refine G [15, 2, 1, 9, 0] ?_
 refine cX ?_ ?_ <;> intro h
 ·rw [if_pos (by simpa using h)] at hE
  subst hE
  refine G [5, 9, 0] ?_
  exact yE
 have h1 : ¬ (n < 0 ∨ 32 < n) := by simp at h; omega
 clear h
 rw [if_neg h1] at hE
 obtain ⟨n, rfl⟩ := qaU (show 0 ≤ n by omega)
 refine G [9] ?_
 refine zae (fun m st => ∃ k : Nat, m + k = 32 ∧ (if a % 2 ^ (32 - (k : Int)).toNat = 0 then (0 : Int) else 3) = E ∧ st = St.of [(1, .ref 1 0), (3, qd k)] [(1, .box 82 (netA a n))]) (32 - n) ?_ ?_
 ·refine ⟨_, zad id _ _ ?_ ?_ rfl, n, qk, hE, rfl⟩
  ·(repeat (first | exact trivial | (refine ⟨⟨qu, rfl⟩, ?_⟩)))
  ·exact ⟨⟨rfl, rfl⟩, trivial⟩
 rintro m st ⟨k, hk, hE, rfl⟩
 refine G [6, 9, 0] ?_
 refine cX ?_ ?_ <;> intro h
 ·have hlt : k < 32 := by simp at h; omega
  clear h
  have hB := nbit_s a k qk qk h2 h3
  have hL := low_step a k qk qk h2
  rcases bitI_01 a k with hb | hb
  ·rw [hb] at hB hL
   refine G [8] ?_
   refine cK hB ?_
   refine G [9, 9, 0] ?_
   refine ⟨m - 1, qk, _, zad id _ _ ?_ ?_ rfl, k + 1, qk, ?_, rfl⟩
   ·(repeat (first | exact trivial | (refine ⟨⟨qu, rfl⟩, ?_⟩)))
   ·exact ⟨⟨rfl, rfl⟩, trivial⟩
   ·rw [← hE, hL]
    simp
  ·rw [hb] at hB hL
   have hne : a % 2 ^ (32 - (k : Int)).toNat ≠ 0 := by
    have hp := zcI (31 - (k : Int)).toNat
    have hq := Int.emod_nonneg a (show (2 : Int) ^ (32 - ((k : Int) + 1)).toNat ≠ 0 from by have := zcI (32 - ((k : Int) + 1)).toNat; omega)
    omega
   rw [if_neg hne] at hE
   subst hE
   refine G [8] ?_
   refine cK hB ?_
   refine G [0, 1, 7, 9, 0] ?_
   exact yE
 have hge : k = 32 := by simp at h; omega
 clear h
 subst hge
 rw [if_pos (by simp [Int.emod_one])] at hE
 subst hE
 refine G [6, 9, 0] ?_
 exact yE
theorem nrOf_s (a n : Int) (h0 : 0 ≤ n) (h1 : n ≤ 32) (h2 : 0 ≤ a) (h3 : a < 4294967296) : Fn prog 119 [qe a, qd n] (.tup [.agg (netA (topI a n) n), qd 0]) [] := by
 obtain ⟨n, rfl⟩ := qaU h0
 refine fnI fun w0 A => ?_
 refine G [9, 3, 2, 3, 17] ?_
 refine zae (fun m st => ∃ k : Nat, m + k = n ∧ st = St.of [(0, qe a), (1, qd n), (4, .ref 4 0), (6, .ref 6 0), (7, qd k)] [(4, .box 82 (netA 0 0)), (6, .box 82 (netA (topI a k) n))]) n ?_ ?_
 ·have e0 : topI a 0 = 0 := by
   unfold topI
   have : a % 2 ^ (32 - (0 : Int)).toNat = a := Int.emod_eq_of_lt h2 h3
   omega
  refine ⟨_, zad id _ _ ?_ ?_ rfl, 0, qk, rfl⟩
  ·(repeat (first | exact trivial | (refine ⟨⟨qu, rfl⟩, ?_⟩)))
  ·exact ⟨⟨rfl, rfl⟩, ⟨by rw [show ((0 : Nat) : Int) = 0 from rfl, e0]; rfl, rfl⟩, trivial⟩
 rintro m st ⟨k, hk, rfl⟩
 refine G [7, 9, 0] ?_
 refine cX ?_ ?_ <;> intro h
 ·have hlt : k < n := by simp at h; omega
  clear h
  have hB := nbit_s a k qk qk h2 h3
  have hS := topI_step a k qk qk h2
  have hT := zfK a ((k : Int) + 1) h2
  have hT0 := zfK a k h2
  have hb := bitI_01 a k
  have hq := zcI (31 - (k : Int)).toNat
  have hm : min (31 - (k : Int)).toNat IntKind.u32.bits = (31 - (k : Int)).toNat := Nat.min_eq_left (by simp only [IntKind.bits]; omega)
  have hx : 0 ≤ bitI a k * 2 ^ (31 - (k : Int)).toNat := by rcases hb with e | e <;> rw [e] <;> omega
  generalize bitI a k = b at *
  generalize topI a k = t at *
  generalize hu : topI a ((k : Int) + 1) = u at *
  refine G [8] ?_
  refine cK hB ?_
  refine mP rfl rfl ?_
  refine zaa (zgf (show _ = 31 - (k : Int) from qa6 _ qk)) rfl rfl ?_
  refine zaa (a_shl qk (show _ = b * 2 ^ (31 - (k : Int)).toNat by rw [hm]; exact qcg _ qk)) rfl rfl ?_
  refine zaa (zd8 (show _ = u by rw [← hS]; exact qcg _ qk)) rfl rfl ?_
  refine G [8, 9, 0] ?_
  refine ⟨m - 1, qk, _, zad id _ _ ?_ ?_ rfl, k + 1, qk, rfl⟩
  ·(repeat (first | exact trivial | (refine ⟨⟨qu, rfl⟩, ?_⟩)))
  ·exact ⟨⟨rfl, rfl⟩, ⟨by rw [← hu]; rfl, rfl⟩, trivial⟩
 have hge : k = n := by simp at h; omega
 clear h
 subst hge
 refine G [8, 9, 0] ?_
 exact yE
theorem nrHas_s (a n x : Int) (hf : zap a n = 0) (h2 : 0 ≤ a) (h3 : a < 4294967296) (h4 : 0 ≤ x) (h5 : x < 4294967296) : Fn prog 160 [.agg (netA a n), qe x] (qf (zc4 a n x)) [] := by
 have hC := zdD a n h2 h3
 obtain ⟨k0, k1, _⟩ := zb5 hf
 have hO := nrOf_s x n k0 k1 h4 h5
 have hq : eqL [.int .u32 (topI x n), .int .i64 n] [.int .u32 a, .int .i64 n] = decide (topI x n = a) := by
  rw [qbm, zaP, decide_eq_true_eq]
  simp
 rw [show zc4 a n x = decide (topI x n = a) by unfold zc4; simp [hf]]
 rw [hf] at hC
 generalize topI x n = t at *
 generalize decide (t = a) = r at *
 refine fnI fun w0 A => ?_
 refine G [10] ?_
 refine cK hO ?_
 refine G [10, 1, 2] ?_
 refine cK hC ?_
 refine G [0, 1, 4] ?_
 refine zaa (zb3 U82 rfl rfl qm qm qm (c := r) hq) rfl rfl ?_
 refine G [4, 9, 0] ?_
 exact yE
theorem nrHolds_s (a n b m : Int) (hf : zap a n = 0) (hg : zap b m = 0) (h2 : 0 ≤ a) (h3 : a < 4294967296) (h4 : 0 ≤ b) (h5 : b < 4294967296) : Fn prog 120 [.agg (netA a n), .agg (netA b m)] (qf (zby a n b m)) [] := by
 have hC := zdD b m h4 h5
 have hH := nrHas_s a n b hf h2 h3 h4 h5
 rw [hg] at hC
 by_cases hle : n ≤ m
 ·rw [show zby a n b m = zc4 a n b by unfold zby; simp [hg, hle]]
  generalize zc4 a n b = r at *
  refine fnI fun w0 A => ?_
  refine G [9] ?_
  refine cK hC ?_
  refine G [0, 1, 5, 4, 5] ?_
  refine cK hH ?_
  refine G [4, 9, 0] ?_
  exact yE
 ·rw [show zby a n b m = false by unfold zby; simp [hle]]
  refine fnI fun w0 A => ?_
  refine G [9] ?_
  refine cK hC ?_
  refine G [0, 1, 5, 3, 10, 9, 0] ?_
  exact yE
theorem nOr_s (x y : Int) : Fn prog 149 [.p (.sl 2 1 [qh x, qh y])] (qd (or2 x y)) [] := by
 obtain ⟨E, hE⟩ : ∃ E, or2 x y = E := ⟨_, rfl⟩
 rw [hE]
 unfold or2 at hE
 refine fnI fun w0 A => ?_
 refine G [16] ?_
 refine zae (fun m st => ∃ i : Nat, m + i = 2 ∧ (0 < i → x = 0) ∧ (1 < i → y = 0) ∧ st = St.of [(3, qd 0), (6, .p (.sl 2 1 [qh x, qh y])), (7, qd 2), (8, qd i)] []) 2 ?_ ?_
 ·refine ⟨_, zad id _ _ qp qp rfl, 0, qk, qk, qk, rfl⟩
 rintro m st ⟨i, hi, hx, hy, rfl⟩
 refine G [5] ?_
 refine cX ?_ ?_ <;> intro h
 ·have hlt : i < 2 := by simp at h; omega
  clear h
  obtain ⟨z, hz, hz0, hz1⟩ : ∃ z : Int, ([qh x, qh y] : List PV)[i * 1]? = some (qh z) ∧ (z ≠ 0 → E = z) ∧ (z = 0 → (0 < i + 1 → x = 0) ∧ (1 < i + 1 → y = 0)) := by
   match i, hlt with
   | 0, _ => exact ⟨x, rfl, fun h => by rw [if_neg h] at hE; exact hE.symm, fun h => ⟨fun _ => h, qk⟩⟩
   | 1, _ => exact ⟨y, rfl, fun h => by rw [if_pos (hx (by omega))] at hE; exact hE.symm, fun h => ⟨fun _ => hx qk, fun _ => h⟩⟩
  refine G [6] ?_
  refine zaa (zaN U3 rfl (by simp only [qa8, qaS, qbi]; exact hz)) rfl rfl ?_
  refine G [8, 9, 0] ?_
  refine cX ?_ ?_ <;> intro h
  ·rw [hz0 (by simpa using h)]
   refine G [6, 9, 0] ?_
   exact yE
  have h0 : z = 0 := by simpa using h
  clear h
  refine G [5, 9, 0] ?_
  refine ⟨m - 1, qk, _, zad id _ _ qp qp rfl, i + 1, qk, (hz1 h0).1, (hz1 h0).2, rfl⟩
 have hge : i = 2 := by simp at h; omega
 clear h
 subst hge
 rw [if_pos (hx (by omega)), hy (by omega)] at hE
 subst hE
 refine G [7, 9, 0] ?_
 exact yE
theorem nCmp_s (a n b m : Int) : Fn prog 102 [.agg (netA a n), .agg (netA b m)] (qd (zbD a n b m)) [] := by
 have h1 : Fn prog 150 [qe a, qe b] (qd (ord3 a b)) [] := zfv rfl (fun _ _ _ => za3 rfl) (cmpU_g a b)
 have h2 : Fn prog 151 [qd n, qd m] (qd (ord3 n m)) [] := zfv rfl (fun _ _ _ => za3 rfl) (cmpI_g n m)
 have h3 := nOr_s (ord3 a b) (ord3 n m)
 rw [show zbD a n b m = or2 (ord3 a b) (ord3 n m) by unfold zbD or2 ord3; (repeat' split) <;> simp_all <;> omega]
 generalize or2 (ord3 a b) (ord3 n m) = r at *
 generalize ord3 a b = x at *
 generalize ord3 n m = y at *
 refine fnI fun w0 A => ?_
 refine G [12] ?_
 refine cK h1 ?_
 refine G [4] ?_
 refine cK h2 ?_
 refine zab (xs := [qd x, qd y]) (zai (es := [qd x, qd y]) (cs := [qh x, qh y]) 15 U112 sz3 zc3 (qaA rfl) (qaA rfl) rfl qm qm qm (qaA rfl)) qH rfl ⟨rfl, trivial⟩ ?_
 refine cV h3 ?_
 refine G [3, 9, 0] ?_
 exact yE
theorem nOrd_s (a n b m : Int) : Fn prog 117 [.agg (netA a n), .agg (netA b m)] (qd (zbD a n b m)) [] := by
 have hq : eqL [.int .u32 a, .int .i64 n] [.int .u32 b, .int .i64 m] = decide (a = b ∧ n = m) := by
  rw [qbm, zaP, decide_eq_true_eq]
  simp
 unfold zbD ord3
 by_cases h1 : a < b
 ·rw [if_neg (by omega), if_pos h1]
  refine fnI fun w0 A => ?_
  refine G [9] ?_
  skip
  refine G [5, 4, 22, 9, 0] ?_
  exact yE
 by_cases h2 : a = b
 ·rw [if_pos h2]
  by_cases h3 : n < m
  ·rw [if_pos h3]
   refine fnI fun w0 A => ?_
   refine G [9] ?_
   skip
   refine G [5, 3, 5, 4, 5, 4, 10, 9, 0] ?_
   exact yE
  rw [if_neg h3]
  by_cases h4 : m < n
  ·rw [if_pos h4]
   refine fnI fun w0 A => ?_
   refine G [9] ?_
   skip
   refine G [5, 3, 5, 4, 5, 3, 9] ?_
   refine zaa (zb3 U82 rfl rfl qm qm qm (c := false) (by rw [hq]; exact decide_eq_false qk)) rfl rfl ?_
   refine G [9, 9, 0] ?_
   exact yE
  rw [if_neg h4]
  refine fnI fun w0 A => ?_
  refine G [9] ?_
  skip
  refine G [5, 3, 5, 4, 5, 3, 9] ?_
  refine zaa (zb3 U82 rfl rfl qm qm qm (c := true) (by rw [hq]; exact decide_eq_true qk)) rfl rfl ?_
  refine G [8, 9, 0] ?_
  exact yE
 rw [if_neg h2, if_neg h1, if_pos (by omega)]
 refine fnI fun w0 A => ?_
 refine G [9] ?_
 skip
 refine G [5, 3, 5, 3, 15] ?_
 refine zaa (zb3 U82 rfl rfl qm qm qm (c := false) (by rw [hq]; exact decide_eq_false qk)) rfl rfl ?_
 refine G [9, 9, 0] ?_
 exact yE
end Go.Proofs.YtlfjpippeeikdaaGreatDoor
