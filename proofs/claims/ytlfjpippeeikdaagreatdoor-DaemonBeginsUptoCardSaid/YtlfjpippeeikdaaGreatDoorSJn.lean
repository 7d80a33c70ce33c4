/- Used. -/
import Derived.Test.YtlfjpippeeikdaaGreatDoorSMa4
import Derived.Lib.AtoiAll
import Derived.Lib.LaidU8
import Derived.Shelf.Strings.Builder1
import Derived.Shelf.Strings.Builder2
import Derived.Shelf.Strings.OnBuilder
import Derived.Shelf.Small.Bits
import Derived.Shelf.Small.Strs
import Derived.Shelf.Small.Wraps
import Derived.Shelf.Strings.BuilderF
import Derived.Shelf.Strings.BuilderK
import Derived.Shelf.Utf8.RuneCount
import Derived.Shelf.Strconv.Atoi
import Derived.Shelf.Strconv.Itoa0
import Derived.Shelf.Strconv.Itoa1
import Derived.Shelf.LaysM
import Derived.Shelf.Strconv.Itoa2
import Derived.Shelf.Strconv.Itoa3
import Derived.Shelf.Strconv.AtoiErrFast
import Derived.Shelf.Strconv.ParseIntEmpty
import Derived.Shelf.Strconv.AtoiFail
import Derived.Shelf.Strconv.Clone
import Derived.Shelf.Strconv.SyntaxError
import Derived.Shelf.LaysC
import Derived.Shelf.Strconv.ToError
import Derived.Shelf.Strconv.AtoiErr
import Derived.Shelf.Strconv.Lower
import Derived.Shelf.Strconv.ParseUint10
import Derived.Shelf.Strconv.ParseUint10Empty
import Derived.Shelf.Strconv.ParseUint10Any
import Derived.Shelf.Strconv.ParseInt10
import Derived.Shelf.Strconv.AtoiLong
import Derived.Shelf.Strconv.AtoiInnerAll
import Derived.Shelf.Strconv.RangeError
import Derived.Shelf.Strconv.ToErrorRange
import Derived.Shelf.Strconv.AtoiAll
import Derived.Shelf.Strconv.ErrVarAll
import Derived.Shelf.Strconv.ParseUintEmpty
import Derived.Shelf.Strconv.ParseUint10b64
import Derived.Shelf.Strconv.ParseUint10b32
import Derived.Shelf.Strconv.ParseUint10b16
import Derived.Shelf.Strconv.ParseUint10b8
import Derived.Shelf.Strconv.ParseUint10At
import Derived.Shelf.Strconv.ParseInt10At64
import Derived.Shelf.Strconv.ParseInt10At32
import Derived.Shelf.Strconv.ParseInt10At16
import Derived.Shelf.Strconv.ParseInt10At8
import Derived.Shelf.Strconv.ParseInt10All
import Derived.Shelf.Strings.Search1
import Derived.Shelf.Strings.Search2
import Derived.Shelf.Strings.Search3
import Derived.Shelf.Strings.Cut
import Derived.Shelf.Strings.Count
import Derived.Shelf.Strings.Shaped
import Derived.Shelf.Strings.Prefix
import Derived.Shelf.Strings.Split
import Derived.Shelf.Strings.SplitShaped
import Derived.Shelf.Unicode.Decode
import Derived.Shelf.Strings.RuneCount
import Derived.Shelf.Strings.Explode
import Derived.Shelf.Bits.Mul64
import Derived.Shelf.Strings.Repeat
import Derived.Shelf.Unicode.DecodeSlow
import Derived.Ground.Names2Prog
import Derived.Shelf.Slices.SearchI
import Derived.WalkSmall
set_option maxRecDepth 100000
set_option maxHeartbeats 16000000
set_option linter.all false
namespace Go.Proofs.YtlfjpippeeikdaaGreatDoor
open Tryz
open Go.RowKit Go.Sort
def zfI (n : Int) : Int := 4294967296 - 2 ^ (32 - n).toNat
theorem maskI_raw (n : Int) (h0 : 0 ≤ n) (h1 : n ≤ 32) : 4294967295 * 2 ^ (32 - n).toNat % 4294967296 = zfI n := by
 unfold zfI
 rcases (show ∃ k : Nat, k ≤ 32 ∧ n = 32 - k from ⟨(32 - n).toNat, qp, qp⟩) with ⟨k, hk, rfl⟩
 have e : (32 - (32 - (k : Int))).toNat = k := qp
 rw [e]
 have hp : (2 : Int) ^ k ≤ 4294967296 := by
  rw [zb1]; have := qcf (show 0 < 2 by decide) hk; omega
 have hq := zcS k
 generalize (2 : Int) ^ k = p at hp hq
 omega
theorem maskI_bd (n : Int) (h0 : 0 ≤ n) (h1 : n ≤ 32) : 0 ≤ zfI n ∧ zfI n ≤ 4294967295 := by
 rw [← maskI_raw n h0 h1]; omega
theorem mask_c (n : Int) (w : World) (h0 : 0 ≤ n) (h1 : n ≤ 32) :
 Calls prog 109 #[.int .i64 n] w fun e w' => e = .returned (.int .u32 (zfI n)) ∧ w = w' := by
 go_enter func109, ntmps109
 go_wp2
 go_ret
 exact ⟨zdb (maskI_raw n h0 h1), rfl⟩
def bitI (a i : Int) : Int := a / 2 ^ (31 - i).toNat % 2
theorem zgR (x : Int) (h0 : 0 ≤ x) (h1 : x < 4294967296) : bits .and .u32 x 1 = x % 2 :=
 zeY x 1 h0 h1 qp
theorem shr_bd (a : Int) (k : Nat) (h2 : 0 ≤ a) (h3 : a < 4294967296) : 0 ≤ a / 2 ^ k ∧ a / 2 ^ k < 4294967296 := by
 obtain ⟨b, rfl⟩ := qbw h2
 rw [zb1]
 have h := Nat.div_le_self b (2 ^ k)
 have e : (b : Int) / ((2 ^ k : Nat) : Int) = ((b / 2 ^ k : Nat) : Int) := qC
 rw [e]
 generalize b / 2 ^ k = c at h
 omega
theorem bit_c (a i : Int) (w : World) (h0 : 0 ≤ i) (h1 : i ≤ 31) (h2 : 0 ≤ a) (h3 : a < 4294967296) :
 Calls prog 88 #[.int .u32 a, .int .i64 i] w fun e w' => e = .returned (.int .u32 (bitI a i)) ∧ w = w' := by
 go_enter func88, ntmps88
 go_wp2
 go_ret
 have h := shr_bd a (31 - i).toNat h2 h3
 exact ⟨zdb (zgR _ h.1 h.2), rfl⟩
def zan (a n : Int) : Int := if n < 0 ∨ 32 < n then 4 else if a % 2 ^ (32 - n).toNat = 0 then 0 else 3
theorem zh0 (a n : Int) (h0 : 0 ≤ n) (h1 : n ≤ 32) (h2 : 0 ≤ a) (h3 : a < 4294967296) : bits .andNot .u32 a (zfI n) = a % 2 ^ (32 - n).toNat := by
 have hb := maskI_bd n h0 h1
 have hq := zcS (32 - n).toNat
 have e : (4294967295 - zfI n) = 2 ^ (32 - n).toNat - 1 := by unfold zfI; omega
 have h := zeY a (32 - n).toNat h2 h3 qp
 rw [← h, ← e, u32_andNot a _ h2 h3 hb.1 (by omega), u32_and a _ h2 h3 (by omega) (by omega)]
 congr 2
 omega
def topI (a n : Int) : Int := a - a % 2 ^ (32 - n).toNat
theorem and_mask (a n : Int) (h0 : 0 ≤ n) (h1 : n ≤ 32) (h2 : 0 ≤ a) (h3 : a < 4294967296) : bits .and .u32 a (zfI n) = topI a n := by
 have hb := maskI_bd n h0 h1
 have h := zh0 a n h0 h1 h2 h3
 unfold topI
 rw [← h, u32_andNot a _ h2 h3 hb.1 (by omega), u32_and a _ h2 h3 hb.1 (by omega)]
 obtain ⟨x, rfl⟩ := qbw h2
 obtain ⟨m, hm⟩ := qbw hb.1
 rw [hm]
 have hm1 : m ≤ 4294967295 := qp
 have hx : x < 4294967296 := qp
 simp only [qbx]
 have key : x &&& m = x - (x &&& (4294967295 - m)) := by
  have : BitVec.ofNat 32 x &&& BitVec.ofNat 32 m = BitVec.ofNat 32 x - (BitVec.ofNat 32 x &&& ~~~ (BitVec.ofNat 32 m)) := by
   generalize BitVec.ofNat 32 x = A
   generalize BitVec.ofNat 32 m = B
   have hd : A = (A &&& B) + (A &&& ~~~B) := by
    rw [BitVec.add_eq_or_of_and_eq_zero]
    ·ext i hi; simp only [BitVec.getElem_or, BitVec.getElem_and, BitVec.getElem_not]; cases A[i] <;> cases B[i] <;> rfl
    ·ext i hi; simp only [BitVec.getElem_and, BitVec.getElem_not, BitVec.getElem_zero]; cases A[i] <;> cases B[i] <;> rfl
   have : A - (A &&& ~~~B) = (A &&& B) := by
    conv => lhs; arg 1; rw [hd]
    exact BitVec.add_sub_cancel _ _
   exact this.symm
  have h := congrArg BitVec.toNat this
  rw [BitVec.toNat_sub, BitVec.toNat_and, BitVec.toNat_and, BitVec.toNat_not] at h
  simp only [BitVec.toNat_ofNat] at h
  rw [Nat.mod_eq_of_lt (show x < 2 ^ 32 by omega), Nat.mod_eq_of_lt (show m < 2 ^ 32 by omega)] at h
  have e : 2 ^ 32 - 1 - m = 4294967295 - m := qp
  rw [e] at h
  have hle : x &&& (4294967295 - m) ≤ x := Nat.and_le_left
  rw [h]
  omega
 have hle : x &&& (4294967295 - m) ≤ x := Nat.and_le_left
 rw [key]
 omega
theorem zf6 (a n : Int) (h2 : 0 ≤ a) : 0 ≤ topI a n ∧ topI a n ≤ a := by
 unfold topI
 have hq := zcS (32 - n).toNat
 have h1 := Int.emod_nonneg a (show (2 : Int) ^ (32 - n).toNat ≠ 0 by omega)
 have h3 : a % 2 ^ (32 - n).toNat ≤ a := by
  obtain ⟨x, rfl⟩ := qbw h2
  rw [zb1]
  exact_mod_cast Nat.mod_le x (2 ^ (32 - n).toNat)
 omega
def zdf (a n x : Int) : Bool := decide (zan a n = 0 ∧ topI x n = a)
def zbB (a n b m : Int) : Bool := decide (zan b m = 0 ∧ n ≤ m) && zdf a n b
theorem zbL {a n : Int} (h : zan a n = 0) : 0 ≤ n ∧ n ≤ 32 ∧ a % 2 ^ (32 - n).toNat = 0 := by
 unfold zan at h
 split at h
 ·simp at h
 ·split at h
  ·exact ⟨qp, qp, qaf⟩
  ·simp at h
theorem low_step (a k : Int) (h0 : 0 ≤ k) (h1 : k ≤ 31) (h2 : 0 ≤ a) : a % 2 ^ (32 - k).toNat = bitI a k * 2 ^ (31 - k).toNat + a % 2 ^ (32 - (k + 1)).toNat := by
 unfold bitI
 obtain ⟨j, hj⟩ : ∃ j : Nat, (31 - k).toNat = j := ⟨_, rfl⟩
 have e1 : (32 - k).toNat = j + 1 := qp
 have e2 : (32 - (k + 1)).toNat = j := qp
 rw [e1, e2, hj]
 obtain ⟨x, rfl⟩ := qbw h2
 have h := Nat.mod_mul (x := x) (a := 2 ^ j) (b := 2)
 rw [← qcC] at h
 have h' := congrArg (fun n : Nat => (n : Int)) h
 simp only [Int.natCast_emod, Int.natCast_add, Int.natCast_mul, Int.natCast_ediv, Int.natCast_pow] at h'
 have e3 : ((2 : Nat) : Int) = 2 := rfl
 rw [e3] at h'
 rw [h', Int.mul_comm, Int.add_comm]
theorem bitI_01 (a k : Int) : bitI a k = 0 ∨ bitI a k = 1 := by unfold bitI; omega
theorem topI_step (a k : Int) (h0 : 0 ≤ k) (h1 : k ≤ 31) (h2 : 0 ≤ a) : topI a (k + 1) = topI a k + bitI a k * 2 ^ (31 - k).toNat := by
 unfold topI
 rw [low_step a k h0 h1 h2]
 omega
def ord3 (a b : Int) : Int := if a < b then -1 else if b < a then 1 else 0
def zbI (a n b m : Int) : Int := if a = b then ord3 n m else ord3 a b
theorem cmpU_g (a b : Int) : Gives prog 150 #[.int .u32 a, .int .u32 b] (.int .i64 (ord3 a b)) := by
 intro w
 have HE := Lib.hid (show ord3 a b = if a < b then -1 else if b < a then 1 else 0 from rfl)
 go_enter func150, ntmps150
 go_wp2
 all_goals (go_ret; exact ⟨zdb qaN, by (repeat' (first | exact Below.refl _ _ | assumption | refine zjg ?_ qaf | refine zf0 ?_ _ | refine zji ?_ | refine zfZ ?_ _ | refine bset ?_ ?_ _ | (show _ ≤ _; simp; omega) | (simp; done)))⟩)
theorem cmpI_g (a b : Int) : Gives prog 151 #[.int .i64 a, .int .i64 b] (.int .i64 (ord3 a b)) := by
 intro w
 have HE := Lib.hid (show ord3 a b = if a < b then -1 else if b < a then 1 else 0 from rfl)
 go_enter func151, ntmps151
 go_wp2
 all_goals (go_ret; exact ⟨zdb qaN, by (repeat' (first | exact Below.refl _ _ | assumption | refine zjg ?_ qaf | refine zf0 ?_ _ | refine zji ?_ | refine zfZ ?_ _ | refine bset ?_ ?_ _ | (show _ ≤ _; simp; omega) | (simp; done)))⟩)
def or2 (x y : Int) : Int := if x = 0 then y else x
def netA (a n : Int) : List AV := [qe a, qd n]
theorem nmask_s (n : Int) (h0 : 0 ≤ n) (h1 : n ≤ 32) : Fn prog 109 [qd n] (qe (zfI n)) [] :=
 zfR (P := prog) (f := 109) [.int .i64 n] (r := .int .u32 (zfI n)) rfl fun w => (mask_c n w h0 h1).mono fun _ _ h => ⟨h.1, h.2.symm⟩
theorem nbit_s (a i : Int) (h0 : 0 ≤ i) (h1 : i ≤ 31) (h2 : 0 ≤ a) (h3 : a < 4294967296) : Fn prog 88 [qe a, qd i] (qe (bitI a i)) [] :=
 zfR (P := prog) (f := 88) [.int .u32 a, .int .i64 i] (r := .int .u32 (bitI a i)) rfl fun w => (bit_c a i w h0 h1 h2 h3).mono fun _ _ h => ⟨h.1, h.2.symm⟩
theorem zcp (a n : Int) (h2 : 0 ≤ a) (h3 : a < 4294967296) : Fn prog 75 [.agg (netA a n)] (qd (zan a n)) [] := by
 obtain ⟨E, hE⟩ : ∃ E, zan a n = E := ⟨_, rfl⟩
 rw [hE]
 unfold zan at hE
 refine fnI fun w0 A => ?_
 refine G [15, 2, 1, 9, 0] ?_
 refine cX ?_ ?_ <;> intro h
 ·rw [if_pos (by simpa using h)] at hE
  subst hE
  refine G [5, 9, 0] ?_
  exact yE
 have h1 : ¬ (n < 0 ∨ 32 < n) := qu
 clear h
 rw [if_neg h1] at hE
 have hM := nmask_s n qp qp
 have hA := zh0 a n qp qp h2 h3
 generalize zfI n = m at *
 generalize a % 2 ^ (32 - n).toNat = r at *
 refine G [8] ?_
 refine cK hM ?_
 refine zaa (zf4 qC hA) rfl rfl ?_
 refine G [2, 9, 0] ?_
 refine cX ?_ ?_ <;> intro h
 ·rw [if_neg (by simpa using h)] at hE
  subst hE
  refine G [5, 9, 0] ?_
  exact yE
 rw [if_pos (by simpa using h)] at hE
 subst hE
 refine G [6, 9, 0] ?_
 exact yE
theorem nHas_s (a n x : Int) (h2 : 0 ≤ a) (h3 : a < 4294967296) (h4 : 0 ≤ x) (h5 : x < 4294967296) : Fn prog 154 [.agg (netA a n), qe x] (qf (zdf a n x)) [] := by
 have hC := zcp a n h2 h3
 by_cases hf : zan a n = 0
 ·rw [show zdf a n x = (topI x n == a) by rw [qbX]; unfold zdf; simp [hf]]
  rw [hf] at hC
  obtain ⟨k0, k1, _⟩ := zbL hf
  have hM := nmask_s n k0 k1
  have hA := and_mask x n k0 k1 h4 h5
  clear hf
  generalize zfI n = m at *
  generalize topI x n = t at *
  refine fnI fun w0 A => ?_
  refine G [8] ?_
  refine cK hC ?_
  refine G [0, 1, 4] ?_
  refine cK hM ?_
  refine zaa (zf4 qC hA) rfl rfl ?_
  refine G [7, 9, 0] ?_
  exact yE
 ·rw [show zdf a n x = false by unfold zdf; simp [hf]]
  generalize zan a n = e at *
  refine fnI fun w0 A => ?_
  refine G [8] ?_
  refine cK hC ?_
  refine G [0, 3, 13, 9, 0] ?_
  exact yE
theorem nHolds_s (a n b m : Int) (h2 : 0 ≤ a) (h3 : a < 4294967296) (h4 : 0 ≤ b) (h5 : b < 4294967296) : Fn prog 110 [.agg (netA a n), .agg (netA b m)] (qf (zbB a n b m)) [] := by
 have hC := zcp b m h4 h5
 have hH := nHas_s a n b h2 h3 h4 h5
 by_cases hf : zan b m = 0
 ·rw [hf] at hC
  by_cases hle : n ≤ m
  ·rw [show zbB a n b m = zdf a n b by unfold zbB; simp [hf, hle]]
   clear hf
   generalize zdf a n b = r at *
   refine fnI fun w0 A => ?_
   refine G [9] ?_
   refine cK hC ?_
   refine G [0, 1, 5, 4, 5] ?_
   refine cK hH ?_
   refine G [4, 9, 0] ?_
   exact yE
  ·rw [show zbB a n b m = false by unfold zbB; simp [hle]]
   clear hf
   refine fnI fun w0 A => ?_
   refine G [9] ?_
   refine cK hC ?_
   refine G [0, 1, 5, 3, 10, 9, 0] ?_
   exact yE
 ·rw [show zbB a n b m = false by unfold zbB; simp [hf]]
  generalize zan b m = e at *
  refine fnI fun w0 A => ?_
  refine G [9] ?_
  refine cK hC ?_
  refine G [0, 3, 16, 9, 0] ?_
  exact yE
theorem nOf_s (a n : Int) (h0 : 0 ≤ n) (h1 : n ≤ 32) (h2 : 0 ≤ a) (h3 : a < 4294967296) : Fn prog 155 [qe a, qd n] (.tup [.agg (netA (topI a n) n), qd 0]) [] := by
 have hM := nmask_s n h0 h1
 have hA := and_mask a n h0 h1 h2 h3
 generalize zfI n = m at *
 generalize topI a n = t at *
 refine fnI fun w0 A => ?_
 refine G [9, 3, 2, 3, 8] ?_
 refine cK hM ?_
 refine zaa (zf4 qC hA) rfl rfl ?_
 refine G [6, 9, 0] ?_
 exact yE
theorem zcH (a n : Int) (h2 : 0 ≤ a) (h3 : a < 4294967296) : Fn prog 116 [.agg (netA a n)] (qd (zan a n)) [] := by
 obtain ⟨E, hE⟩ : ∃ E, zan a n = E := ⟨_, rfl⟩
 rw [hE]
 unfold zan at hE
 refine fnI fun w0 A => ?_
 refine G [15, 2, 1, 9, 0] ?_
 refine cX ?_ ?_ <;> intro h
 ·rw [if_pos (by simpa using h)] at hE
  subst hE
  refine G [5, 9, 0] ?_
  exact yE
 have h1 : ¬ (n < 0 ∨ 32 < n) := qu
 clear h
 rw [if_neg h1] at hE
 obtain ⟨n, rfl⟩ := qbw (show 0 ≤ n by omega)
 refine G [9] ?_
 refine zac (fun m st => ∃ k : Nat, m + k = 32 ∧ (if a % 2 ^ (32 - (k : Int)).toNat = 0 then (0 : Int) else 3) = E ∧ st = St.of [(1, .ref 1 0), (3, qd k)] [(1, .box 82 (netA a n))]) (32 - n) ?_ ?_
 ·refine ⟨_, zae id _ _ ?_ ?_ rfl, n, qp, hE, rfl⟩
  ·(repeat (first | exact trivial | (refine ⟨⟨qH, rfl⟩, ?_⟩)))
  ·exact ⟨⟨rfl, rfl⟩, trivial⟩
 rintro m st ⟨k, hk, hE, rfl⟩
 refine G [6, 9, 0] ?_
 refine cX ?_ ?_ <;> intro h
 ·have hlt : k < 32 := qu
  clear h
  have hB := nbit_s a k qp qp h2 h3
  have hL := low_step a k qp qp h2
  rcases bitI_01 a k with hb | hb
  ·rw [hb] at hB hL
   refine G [8] ?_
   refine cK hB ?_
   refine G [9, 9, 0] ?_
   refine ⟨m - 1, qp, _, zae id _ _ ?_ ?_ rfl, k + 1, qp, ?_, rfl⟩
   ·(repeat (first | exact trivial | (refine ⟨⟨qH, rfl⟩, ?_⟩)))
   ·exact ⟨⟨rfl, rfl⟩, trivial⟩
   ·rw [← hE, hL]
    simp
  ·rw [hb] at hB hL
   have hne : a % 2 ^ (32 - (k : Int)).toNat ≠ 0 := by
    have hp := zcS (31 - (k : Int)).toNat
    have hq := Int.emod_nonneg a (show (2 : Int) ^ (32 - ((k : Int) + 1)).toNat ≠ 0 from by have := zcS (32 - ((k : Int) + 1)).toNat; omega)
    omega
   rw [if_neg hne] at hE
   subst hE
   refine G [8] ?_
   refine cK hB ?_
   refine G [0, 1, 7, 9, 0] ?_
   exact yE
 have hge : k = 32 := qu
 clear h
 subst hge
 rw [if_pos (by simp [Int.emod_one])] at hE
 subst hE
 refine G [6, 9, 0] ?_
 exact yE
theorem nrOf_s (a n : Int) (h0 : 0 ≤ n) (h1 : n ≤ 32) (h2 : 0 ≤ a) (h3 : a < 4294967296) : Fn prog 119 [qe a, qd n] (.tup [.agg (netA (topI a n) n), qd 0]) [] := by
 obtain ⟨n, rfl⟩ := qbw h0
 refine fnI fun w0 A => ?_
 refine G [9, 3, 2, 3, 17] ?_
 refine zac (fun m st => ∃ k : Nat, m + k = n ∧ st = St.of [(0, qe a), (1, qd n), (4, .ref 4 0), (6, .ref 6 0), (7, qd k)] [(4, .box 82 (netA 0 0)), (6, .box 82 (netA (topI a k) n))]) n ?_ ?_
 ·have e0 : topI a 0 = 0 := by
   unfold topI
   have : a % 2 ^ (32 - (0 : Int)).toNat = a := Int.emod_eq_of_lt h2 h3
   omega
  refine ⟨_, zae id _ _ ?_ ?_ rfl, 0, qp, rfl⟩
  ·(repeat (first | exact trivial | (refine ⟨⟨qH, rfl⟩, ?_⟩)))
  ·exact ⟨⟨rfl, rfl⟩, ⟨by rw [show ((0 : Nat) : Int) = 0 from rfl, e0]; rfl, rfl⟩, trivial⟩
 rintro m st ⟨k, hk, rfl⟩
 refine G [7, 9, 0] ?_
 refine cX ?_ ?_ <;> intro h
 ·have hlt : k < n := qu
  clear h
  have hB := nbit_s a k qp qp h2 h3
  have hS := topI_step a k qp qp h2
  have hT := zf6 a ((k : Int) + 1) h2
  have hT0 := zf6 a k h2
  have hb := bitI_01 a k
  have hq := zcS (31 - (k : Int)).toNat
  have hm : min (31 - (k : Int)).toNat IntKind.u32.bits = (31 - (k : Int)).toNat := Nat.min_eq_left (by simp only [IntKind.bits]; omega)
  have hx : 0 ≤ bitI a k * 2 ^ (31 - (k : Int)).toNat := by rcases hb with e | e <;> rw [e] <;> omega
  generalize bitI a k = b at *
  generalize topI a k = t at *
  generalize hu : topI a ((k : Int) + 1) = u at *
  refine G [8] ?_
  refine cK hB ?_
  refine mP rfl rfl ?_
  refine zaa (zgD (show _ = 31 - (k : Int) from qbM _ qp)) rfl rfl ?_
  refine zaa (a_shl qp (show _ = b * 2 ^ (31 - (k : Int)).toNat by rw [hm]; exact qcU _ qp)) rfl rfl ?_
  refine zaa (zgF (show _ = u by rw [← hS]; exact qcU _ qp)) rfl rfl ?_
  refine G [8, 9, 0] ?_
  refine ⟨m - 1, qp, _, zae id _ _ ?_ ?_ rfl, k + 1, qp, rfl⟩
  ·(repeat (first | exact trivial | (refine ⟨⟨qH, rfl⟩, ?_⟩)))
  ·exact ⟨⟨rfl, rfl⟩, ⟨by rw [← hu]; rfl, rfl⟩, trivial⟩
 have hge : k = n := qu
 clear h
 subst hge
 refine G [8, 9, 0] ?_
 exact yE
theorem nrHas_s (a n x : Int) (hf : zan a n = 0) (h2 : 0 ≤ a) (h3 : a < 4294967296) (h4 : 0 ≤ x) (h5 : x < 4294967296) : Fn prog 160 [.agg (netA a n), qe x] (qf (zdf a n x)) [] := by
 have hC := zcH a n h2 h3
 obtain ⟨k0, k1, _⟩ := zbL hf
 have hO := nrOf_s x n k0 k1 h4 h5
 have hq : eqL [.int .u32 (topI x n), .int .i64 n] [.int .u32 a, .int .i64 n] = decide (topI x n = a) := by
  rw [qbX, zaN, decide_eq_true_eq]
  simp
 rw [show zdf a n x = decide (topI x n = a) by unfold zdf; simp [hf]]
 rw [hf] at hC
 generalize topI x n = t at *
 generalize decide (t = a) = r at *
 refine fnI fun w0 A => ?_
 refine G [10] ?_
 refine cK hO ?_
 refine G [10, 1, 2] ?_
 refine cK hC ?_
 refine G [0, 1, 4] ?_
 refine zaa (zbW U82 rfl rfl qr qr qr (c := r) hq) rfl rfl ?_
 refine G [4, 9, 0] ?_
 exact yE
theorem nrHolds_s (a n b m : Int) (hf : zan a n = 0) (hg : zan b m = 0) (h2 : 0 ≤ a) (h3 : a < 4294967296) (h4 : 0 ≤ b) (h5 : b < 4294967296) : Fn prog 120 [.agg (netA a n), .agg (netA b m)] (qf (zbB a n b m)) [] := by
 have hC := zcH b m h4 h5
 have hH := nrHas_s a n b hf h2 h3 h4 h5
 rw [hg] at hC
 by_cases hle : n ≤ m
 ·rw [show zbB a n b m = zdf a n b by unfold zbB; simp [hg, hle]]
  generalize zdf a n b = r at *
  refine fnI fun w0 A => ?_
  refine G [9] ?_
  refine cK hC ?_
  refine G [0, 1, 5, 4, 5] ?_
  refine cK hH ?_
  refine G [4, 9, 0] ?_
  exact yE
 ·rw [show zbB a n b m = false by unfold zbB; simp [hle]]
  refine fnI fun w0 A => ?_
  refine G [9] ?_
  refine cK hC ?_
  refine G [0, 1, 5, 3, 10, 9, 0] ?_
  exact yE
theorem nOr_s (x y : Int) : Fn prog 149 [ql 2 1 [qh x, qh y]] (qd (or2 x y)) [] := by
 obtain ⟨E, hE⟩ : ∃ E, or2 x y = E := ⟨_, rfl⟩
 rw [hE]
 unfold or2 at hE
 refine fnI fun w0 A => ?_
 refine G [16] ?_
 refine zac (fun m st => ∃ i : Nat, m + i = 2 ∧ (0 < i → x = 0) ∧ (1 < i → y = 0) ∧ st = St.of [(3, qd 0), (6, ql 2 1 [qh x, qh y]), (7, qd 2), (8, qd i)] []) 2 ?_ ?_
 ·refine ⟨_, zae id _ _ qt qt rfl, 0, qp, qp, qp, rfl⟩
 rintro m st ⟨i, hi, hx, hy, rfl⟩
 refine G [5] ?_
 refine cX ?_ ?_ <;> intro h
 ·have hlt : i < 2 := qu
  clear h
  obtain ⟨z, hz, hz0, hz1⟩ : ∃ z : Int, ([qh x, qh y] : List PV)[i * 1]? = some (qh z) ∧ (z ≠ 0 → E = z) ∧ (z = 0 → (0 < i + 1 → x = 0) ∧ (1 < i + 1 → y = 0)) := by
   match i, hlt with
   | 0, _ => exact ⟨x, rfl, fun h => by rw [if_neg h] at hE; exact hE.symm, fun h => ⟨fun _ => h, qp⟩⟩
   | 1, _ => exact ⟨y, rfl, fun h => by rw [if_pos (hx (by omega))] at hE; exact hE.symm, fun h => ⟨fun _ => hx qp, fun _ => h⟩⟩
  refine G [6] ?_
  refine zaa (zaG U3 rfl (by simp only [qbN, qbx, qb0]; exact hz)) rfl rfl ?_
  refine G [8, 9, 0] ?_
  refine cX ?_ ?_ <;> intro h
  ·rw [hz0 (by simpa using h)]
   refine G [6, 9, 0] ?_
   exact yE
  have h0 : z = 0 := qz
  clear h
  refine G [5, 9, 0] ?_
  refine ⟨m - 1, qp, _, zae id _ _ qt qt rfl, i + 1, qp, (hz1 h0).1, (hz1 h0).2, rfl⟩
 have hge : i = 2 := qu
 clear h
 subst hge
 rw [if_pos (hx (by omega)), hy (by omega)] at hE
 subst hE
 refine G [7, 9, 0] ?_
 exact yE
theorem nCmp_s (a n b m : Int) : Fn prog 102 [.agg (netA a n), .agg (netA b m)] (qd (zbI a n b m)) [] := by
 have h1 : Fn prog 150 [qe a, qe b] (qd (ord3 a b)) [] := zfS rfl (fun _ _ _ => za1 rfl) (cmpU_g a b)
 have h2 : Fn prog 151 [qd n, qd m] (qd (ord3 n m)) [] := zfS rfl (fun _ _ _ => za1 rfl) (cmpI_g n m)
 have h3 := nOr_s (ord3 a b) (ord3 n m)
 rw [show zbI a n b m = or2 (ord3 a b) (ord3 n m) by unfold zbI or2 ord3; (repeat' split) <;> simp_all <;> omega]
 generalize or2 (ord3 a b) (ord3 n m) = r at *
 generalize ord3 a b = x at *
 generalize ord3 n m = y at *
 refine fnI fun w0 A => ?_
 refine G [12] ?_
 refine cK h1 ?_
 refine G [4] ?_
 refine cK h2 ?_
 refine zab (xs := [qd x, qd y]) (zag (es := [qd x, qd y]) (cs := [qh x, qh y]) 15 U112 sz3 zc3 (qbe rfl) (qbe rfl) rfl qr qr qr (qbe rfl)) qP rfl ⟨rfl, trivial⟩ ?_
 refine cV h3 ?_
 refine G [3, 9, 0] ?_
 exact yE
theorem nOrd_s (a n b m : Int) : Fn prog 117 [.agg (netA a n), .agg (netA b m)] (qd (zbI a n b m)) [] := by
 have hq : eqL [.int .u32 a, .int .i64 n] [.int .u32 b, .int .i64 m] = decide (a = b ∧ n = m) := by
  rw [qbX, zaN, decide_eq_true_eq]
  simp
 unfold zbI ord3
 by_cases h1 : a < b
 ·rw [if_neg (by omega), if_pos h1]
  refine fnI fun w0 A => ?_
  refine G [9] ?_
  skip
  refine G [5, 4, 22, 9, 0] ?_
  exact yE
 by_cases h2 : a = b
 ·rw [if_pos h2]
  by_cases h3 : n < m
  ·rw [if_pos h3]
   refine fnI fun w0 A => ?_
   refine G [9] ?_
   skip
   refine G [5, 3, 5, 4, 5, 4, 10, 9, 0] ?_
   exact yE
  rw [if_neg h3]
  by_cases h4 : m < n
  ·rw [if_pos h4]
   refine fnI fun w0 A => ?_
   refine G [9] ?_
   skip
   refine G [5, 3, 5, 4, 5, 3, 9] ?_
   refine zaa (zbW U82 rfl rfl qr qr qr (c := false) (by rw [hq]; exact decide_eq_false qp)) rfl rfl ?_
   refine G [9, 9, 0] ?_
   exact yE
  rw [if_neg h4]
  refine fnI fun w0 A => ?_
  refine G [9] ?_
  skip
  refine G [5, 3, 5, 4, 5, 3, 9] ?_
  refine zaa (zbW U82 rfl rfl qr qr qr (c := true) (by rw [hq]; exact decide_eq_true qp)) rfl rfl ?_
  refine G [8, 9, 0] ?_
  exact yE
 rw [if_neg h2, if_neg h1, if_pos (by omega)]
 refine fnI fun w0 A => ?_
 refine G [9] ?_
 skip
 refine G [5, 3, 5, 3, 15] ?_
 refine zaa (zbW U82 rfl rfl qr qr qr (c := false) (by rw [hq]; exact decide_eq_false qp)) rfl rfl ?_
 refine G [9, 9, 0] ?_
 exact yE
end Go.Proofs.YtlfjpippeeikdaaGreatDoor
namespace Go.Proofs.YtlfjpippeeikdaaGreatDoor
open Go.RowKit Go.Sort
theorem sb_nums {xs : List Int} (h : isB xs) : sb (strOfNums xs) = xs := by
 show ((xs.map fun n => UInt8.ofNat n.toNat).toArray.toList.map fun c => ((c.toNat : Nat) : Int)) = xs
 simp only [qbW]
 conv => rhs; rw [← List.map_id xs]
 refine qcb fun x hx => ?_
 have := h x hx
 show (((UInt8.ofNat x.toNat).toNat : Nat) : Int) = x
 rw [UInt8.toNat_ofNat']; omega
theorem nums_inj {xs ys : List Int} (h : isB xs) (k : isB ys) (e : strOfNums xs = strOfNums ys) : xs = ys := by rw [← sb_nums h, ← sb_nums k, e]
theorem zdx (s t : ByteArray) : (s ++ t).size = s.size + t.size := qC
end Go.Proofs.YtlfjpippeeikdaaGreatDoor
namespace Go.Proofs.YtlfjpippeeikdaaGreatDoor
open Go.Lib
def dgB (c : UInt8) : Prop := 48 ≤ c.toNat ∧ c.toNat ≤ 57
def valL : List UInt8 → Nat → Nat
 | [], a => a
 | c :: r, a => valL r (a * 10 + (c.toNat - 48))
theorem valL_push : ∀ (l : List UInt8) (c : UInt8) (a : Nat), valL (l ++ [c]) a = valL l a * 10 + (c.toNat - 48)
 | [], c, a => rfl
 | x :: l, c, a => by simp only [qbG, valL]; exact valL_push l c _
theorem valL_lt : ∀ (l : List UInt8) (a : Nat), (∀ c ∈ l, dgB c) → valL l a < (a + 1) * 10 ^ l.length
 | [], a, _ => by simp [valL]
 | c :: r, a, h => by
  have h0 := h c qC
  have h1 := valL_lt r (a * 10 + (c.toNat - 48)) fun x hx => h x qba
  have h2 : (a * 10 + (c.toNat - 48) + 1) * 10 ^ r.length ≤ ((a + 1) * 10) * 10 ^ r.length := qbL _ (by unfold dgB at h0; omega)
  simp only [valL, qbs, qcC]
  calc valL r (a * 10 + (c.toNat - 48)) < _ := h1
   _ ≤ _ := h2
   _ = (a + 1) * (10 ^ r.length * 10) := by rw [Nat.mul_assoc, qcK 10]
theorem parse_ok : ∀ (l : List UInt8) (a : Nat), (∀ c ∈ l, dgB c) → (a + 1) * 10 ^ l.length ≤ 1000000000000000000 → parseUint10 a l = .ok (valL l a)
 | [], a, _, _ => rfl
 | c :: r, a, h, hb => by
  have h0 := h c qC
  unfold dgB at h0
  have hp : 1 ≤ 10 ^ r.length := Nat.one_le_pow _ _ qE
  have e1 : (a + 1) * 10 ^ (c :: r).length = (a + 1) * 10 * 10 ^ r.length := by rw [qbs, qcC, Nat.mul_assoc, qcK 10]
  rw [e1] at hb
  have h1 : (a + 1) * 10 ≤ (a + 1) * 10 * 10 ^ r.length := Nat.le_mul_of_pos_right _ hp
  simp only [parseUint10, valL]
  rw [if_pos ⟨h0.1, h0.2⟩, if_neg (by omega), if_neg (by omega)]
  refine parse_ok r _ (fun x hx => h x qba) ?_
  exact qcd (qbL _ qp) hb
def canL (l : List UInt8) : Prop := l ≠ [] ∧ l.length ≤ 5 ∧ (∀ c ∈ l, dgB c) ∧ (1 < l.length → l.head? ≠ some 48)
theorem u8_dg {c : UInt8} (h : dgB c) : UInt8.ofNat (48 + (c.toNat - 48)) = c := by
 unfold dgB at h
 rw [show 48 + (c.toNat - 48) = c.toNat by omega]
 simp
theorem dec_push {a d : Nat} (ha : 1 ≤ a) (hd : d < 10) : decDigits (a * 10 + d) = decDigits a ++ [UInt8.ofNat (48 + d)] := by
 rw [decDigits, dif_neg (by omega), show (a * 10 + d) / 10 = a by omega, show (a * 10 + d) % 10 = d by omega]
theorem dec_val : ∀ (l : List UInt8) (a : Nat), 1 ≤ a → (∀ c ∈ l, dgB c) → decDigits (valL l a) = decDigits a ++ l
 | [], a, _, _ => by simp [valL]
 | c :: r, a, ha, h => by
  have h0 := h c qC
  have h0' := h0
  unfold dgB at h0'
  simp only [valL]
  rw [dec_val r _ (by omega) fun x hx => h x (by simp [hx]), dec_push ha (by omega), u8_dg h0, qbB]
  rfl
theorem canL_val {l : List UInt8} (h : canL l) : atoiAll l = .ok ((valL l 0 : Nat) : Int) ∧ itoa ((valL l 0 : Nat) : Int) = l ∧ valL l 0 < 100000 := by
 obtain ⟨h1, h2, h3, h4⟩ := h
 have hlt := valL_lt l 0 h3
 have hpw : 10 ^ l.length ≤ 10 ^ 5 := qcf qE h2
 have hv : valL l 0 < 100000 := qp
 refine ⟨?_, ?_, hv⟩
 ·match l, h1, h3, hpw, hv with
  | c :: r, _, h3, hpw, hv =>
   have h0 := h3 c qC
   unfold dgB at h0
   unfold atoiAll
   simp only
   rw [if_neg (by omega)]
   unfold parseMag
   rw [if_neg (by simp), parse_ok _ 0 h3 (by omega)]
   simp only
   rw [if_neg (by omega), if_neg (by omega), if_neg (by omega)]
 ·unfold itoa
  rw [if_neg (by omega), qbx]
  match l, h1, h3, h4 with
  | c :: r, _, h3, h4 =>
   have h0 := h3 c qC
   have h0' := h0
   unfold dgB at h0'
   simp only [valL, Nat.zero_mul, Nat.zero_add]
   cases r with
   | nil => simp only [valL]; rw [decDigits_one (by omega), u8_dg h0]
   | cons x r =>
    have hc : c ≠ 48 := fun e => h4 qC (by simp [e])
    have hc1 : c.toNat ≠ 48 := fun e => hc (by rw [← UInt8.toNat_inj, e]; rfl)
    rw [dec_val _ _ (by omega) fun y hy => h3 y (by simp [hy]), decDigits_one (by omega), u8_dg h0]
    rfl
theorem dec_dg (n : Nat) : ∀ c ∈ decDigits n, dgB c := by
 induction n using Nat.strongRecOn with
 | _ n ih =>
  intro c hc
  rw [decDigits] at hc
  have key : ∀ d, d < 10 → dgB (UInt8.ofNat (48 + d)) := fun d hd => by
   unfold dgB
   rw [UInt8.toNat_ofNat']
   omega
  split at hc
  ·simp only [qcu] at hc
   rw [hc]; exact key n qaf
  ·rcases qbz.1 hc with hc | hc
   ·exact ih (n / 10) qp c hc
   ·simp only [qcu] at hc
    rw [hc]; exact key _ qp
theorem dec_ne (n : Nat) : decDigits n ≠ [] := by
 rw [decDigits]; split <;> simp
theorem dec_head (n : Nat) (hn : 1 ≤ n) : (decDigits n).head? ≠ some 48 := by
 induction n using Nat.strongRecOn with
 | _ n ih =>
  rw [decDigits]
  split
  ·simp only [List.head?_cons, ne_eq, Option.some.injEq]
   intro e
   have := congrArg UInt8.toNat e
   rw [UInt8.toNat_ofNat'] at this
   have e48 : (48 : UInt8).toNat = 48 := rfl
   omega
  ·have := ih (n / 10) qp qp
   rw [List.head?_append]
   cases hq : (decDigits (n / 10)).head? with
   | none => exact absurd (List.head?_eq_none_iff.1 hq) (dec_ne _)
   | some c => rw [hq] at this; simpa using this
theorem canL_of {l : List UInt8} {v : Int} (hl : l.length ≤ 5) (hv : 0 ≤ v) (h : itoa v = l) : canL l := by
 unfold itoa at h
 rw [if_neg (by omega)] at h
 subst h
 refine ⟨dec_ne _, hl, dec_dg _, fun h1 => ?_⟩
 by_cases h0 : v.toNat = 0
 ·rw [h0, decDigits_one (by decide)] at h1
  simp at h1
 ·exact dec_head _ qp
instance dgB_dec (c : UInt8) : Decidable (dgB c) := by unfold dgB; infer_instance
instance canL_dec (l : List UInt8) : Decidable (canL l) := by unfold canL; infer_instance
def canS (s : ByteArray) : Bool := decide (canL s.data.toList)
def valS (s : ByteArray) : Nat := valL s.data.toList 0
def itoS (n : Int) : ByteArray := ⟨(itoa n).toArray⟩
theorem zjf {s : ByteArray} (h : canS s = true) : atoiAll s.data.toList = .ok ((valS s : Nat) : Int) ∧ itoS ((valS s : Nat) : Int) = s ∧ valS s < 100000 := by
 obtain ⟨h1, h2, h3⟩ := canL_val (of_decide_eq_true h)
 refine ⟨h1, ?_, h3⟩
 unfold itoS valS
 rw [h2]
theorem canS_of {s : ByteArray} {v : Int} (hl : s.size ≤ 5) (hv : 0 ≤ v) (h : itoS v = s) : canS s = true := by
 refine decide_eq_true (canL_of (v := v) qa4 hv ?_)
 rw [← h]; rfl
theorem canS_num {s : ByteArray} {v : Int} (hl : s.size ≤ 5) (hv : 0 ≤ v) (h : itoS v = s) (ha : atoiAll s.data.toList = .ok v) : canS s = true ∧ v = valS s := by
 have hc := canS_of hl hv h
 refine ⟨hc, ?_⟩
 have := (zjf hc).1
 rw [ha] at this
 exact NumEnd.ok.inj this
theorem canS_size {s : ByteArray} (h : canS s = true) : 1 ≤ s.size ∧ s.size ≤ 5 := by
 obtain ⟨h1, h2, _⟩ := of_decide_eq_true (p := canL s.data.toList) h
 have h3 := List.length_pos_iff.2 h1
 rw [qb2] at h2 h3
 exact ⟨h3, h2⟩
theorem data_at {s : ByteArray} {i : Nat} (h : i < s.size) : s.data.toList[i]? = some s[i] := by
 rw [Array.getElem?_toList]
 exact qcG h
theorem zga {s : ByteArray} {i : Nat} {c : UInt8} (h : s.data.toList[i]? = some c) : sAt s i = (c.toNat : Int) := by
 unfold sAt sb
 rw [List.getD_eq_getElem?_getD, qbV, h]
 rfl
def digS (c : Int) : Bool := decide (48 ≤ c) && decide (c ≤ 57)
def valT (s : ByteArray) (i : Nat) : Int := (valL (s.data.toList.take i) 0 : Nat)
theorem valT_zero (s : ByteArray) : valT s 0 = 0 := by simp [valT, valL]
theorem valT_all (s : ByteArray) : valT s s.size = (valS s : Nat) := by
 unfold valT valS
 rw [qbr (by simp)]
theorem valT_succ {s : ByteArray} {i : Nat} (h : i < s.size) (hd : digS (sAt s i) = true) : valT s (i + 1) = 10 * valT s i + (sAt s i - 48) := by
 obtain ⟨c, hc⟩ : ∃ c, s.data.toList[i]? = some c := ⟨_, data_at h⟩
 have hs := zga hc
 unfold digS at hd
 simp only [qbv, decide_eq_true_eq] at hd
 unfold valT
 rw [List.take_add_one, hc, Option.toList_some, valL_push, hs]
 rw [hs] at hd
 omega
theorem valT_in {s : ByteArray} {i : Nat} (hi : i ≤ s.size) (h5 : i ≤ 5) (hd : ∀ j, j < i → digS (sAt s j) = true) : 0 ≤ valT s i ∧ valT s i < 100000 := by
 have hc : ∀ c ∈ s.data.toList.take i, dgB c := by
  intro c hc
  obtain ⟨j, hj, he⟩ := qb5.1 hc
  rw [List.length_take] at hj
  rw [qcJ] at he
  have h1 : s.data.toList[j]? = some c := by rw [List.getElem?_eq_getElem (by omega), he]
  have h2 := hd j qp
  rw [zga h1] at h2
  unfold digS at h2
  simp only [qbv, decide_eq_true_eq] at h2
  unfold dgB
  omega
 have h1 := valL_lt _ 0 hc
 have h2 : 10 ^ (s.data.toList.take i).length ≤ 10 ^ 5 := qcf qE qN
 unfold valT
 omega
theorem canS_dig {s : ByteArray} (h0 : s.size ≠ 0) (h5 : s.size ≤ 5) (hz : 1 < s.size → sAt s 0 ≠ 48) (hd : ∀ j, j < s.size → digS (sAt s j) = true) : canS s = true := by
 refine decide_eq_true ⟨fun e => h0 ?_, by simpa using h5, fun c hc => ?_, fun h1 e => ?_⟩
 ·have := congrArg List.length e
  simpa using this
 ·obtain ⟨i, hi, he⟩ := qb5.1 hc
  have hi' : i < s.size := qX
  have hh := zga (s := s) (i := i) (c := c) (by rw [List.getElem?_eq_getElem hi, he])
  have h2 := hd i hi'
  rw [hh] at h2
  unfold digS at h2
  simp only [qbv, decide_eq_true_eq] at h2
  unfold dgB
  omega
 ·have h2 : 1 < s.size := qbb
  have h3 : s.data.toList[0]? = some 48 := by rw [← List.head?_eq_getElem?]; exact e
  exact hz h2 (zga h3)
theorem canS_not {s : ByteArray} (h : s.size = 0 ∨ 5 < s.size ∨ (1 < s.size ∧ sAt s 0 = 48) ∨ ∃ j, j < s.size ∧ digS (sAt s j) = false) : canS s = false := by
 refine decide_eq_false fun ⟨h1, h2, h3, h4⟩ => ?_
 rcases h with h | h | ⟨h, h5⟩ | ⟨j, hj, h5⟩
 ·exact h1 (qbt qz)
 ·have : s.size ≤ 5 := by simpa using h2
  omega
 ·obtain ⟨c, hc⟩ : ∃ c, s.data.toList[0]? = some c := ⟨_, data_at (show 0 < s.size by omega)⟩
  rw [zga hc] at h5
  refine h4 qz ?_
  rw [List.head?_eq_getElem?, hc]
  congr 1
  rw [← UInt8.toNat_inj]
  show c.toNat = 48
  omega
 ·obtain ⟨c, hc⟩ : ∃ c, s.data.toList[j]? = some c := ⟨_, data_at hj⟩
  have := h3 c (qbh hc)
  rw [zga hc] at h5
  unfold dgB at this
  unfold digS at h5
  simp only [qcr, decide_eq_false_iff_not] at h5
  omega
def numB (s : ByteArray) (most : Int) : Bool := canS s && decide ((valS s : Int) ≤ most)
def numE (s : ByteArray) (most : Int) : Int := if numB s most = true then 0 else 3
def numV (s : ByteArray) (most : Int) : Int := if numB s most = true then (valS s : Int) else 0
theorem zfN (n : Int) (h0 : 0 ≤ n) (h1 : n < 100000) : 1 ≤ (itoS n).size ∧ (itoS n).size ≤ 5 := by
 have hi : itoa n = decDigits n.toNat := by unfold itoa; rw [if_neg (by omega)]
 have hs : (itoS n).size = (decDigits n.toNat).length := by
  show (itoa n).toArray.size = _
  rw [qcj, hi]
 rw [hs]
 have key : ∀ k m : Nat, m < 10 ^ (k + 1) → 1 ≤ (decDigits m).length ∧ (decDigits m).length ≤ k + 1 := by
  intro k
  induction k with
  | zero => intro m hm; rw [decDigits_one (by omega)]; simp
  | succ k ih =>
   intro m hm
   rw [decDigits]
   split
   ·simp
   ·have := ih (m / 10) (by rw [qcC] at hm; omega)
    rw [qbg]
    simp only [qbs, qcy]
    omega
 exact key 4 n.toNat qp
end Go.Proofs.YtlfjpippeeikdaaGreatDoor
namespace Go.Proofs.YtlfjpippeeikdaaGreatDoor
open Go.RowKit Go.Sort
theorem zap {α β : Type} {f : α → List β} {k : Nat} (hf : ∀ x, (f x).length = k) : ∀ l : List α, (l.flatMap f).length = l.length * k
 | [] => by simp
 | a :: l => by rw [qbR, qbg, hf, zap hf l, qbs]; rw [qcc]; omega
theorem zaj {α β : Type} {f : α → List β} {k : Nat} (hf : ∀ x, (f x).length = k) : ∀ {l : List α} {i : Nat} {x : α}, l[i]? = some x → ((l.flatMap f).drop (i * k)).take k = f x
 | [], i, x, h => by simp at h
 | a :: l, 0, x, h => by
  simp at h; subst h
  rw [Nat.zero_mul, qch, qbR, qbH (by rw [hf]; exact Nat.le_refl _), qbr (by rw [hf]; exact Nat.le_refl _)]
 | a :: l, i + 1, x, h => by
  have h' : l[i]? = some x := qz
  have e : (i + 1) * k = (f a).length + i * k := by rw [hf, qcc]; omega
  rw [qbR, e, ← qcN, qcO]
  exact zaj hf h'
theorem zai {α β : Type} {f : α → List β} {k : Nat} (hf : ∀ x, (f x).length = k) {l : List α} {i : Nat} (h : i < l.length) : i * k + k ≤ (l.flatMap f).length := by
 rw [zap hf]
 have : (i + 1) * k ≤ l.length * k := qbL _ h
 rw [qcc] at this; omega
theorem zgA {α β : Type} {f : α → List β} {k : Nat} (hf : ∀ x, (f x).length = k) : ∀ (l : List α) (i : Nat), (l.flatMap f).drop (i * k) = (l.drop i).flatMap f
 | [], i => by simp
 | a :: l, 0 => by simp
 | a :: l, i + 1 => by
  have e : (i + 1) * k = (f a).length + i * k := by rw [hf, qcc]; omega
  rw [qbR, e, ← qcN, qcO, qb8, zgA hf l i]
theorem zgh {α : Type} {f : α → List PV} {Q : α → Prop} : ∀ {L : List (List PV)}, (∀ x ∈ L, ∃ a, Q a ∧ x = f a) → ∃ l : List α, l.length = L.length ∧ L.flatten = l.flatMap f ∧ ∀ a ∈ l, Q a
 | [], _ => ⟨[], rfl, rfl, qC⟩
 | x :: L, h => by
  obtain ⟨a, h1, rfl⟩ := h x qC
  obtain ⟨l, h2, h3, h4⟩ := zgh (L := L) fun y hy => h y qa7
  exact ⟨a :: l, by simp [h2], by simp [h3], fun b hb => by
   rcases qbm.1 hb with rfl | hb
   ·exact h1
   ·exact h4 b hb⟩
theorem ty_recs {P : Program} {n t e sz : Nat} {ps : List PV} {α : Type} {f : α → List PV} {Q : α → Prop} (hu : P.underlying t = some (.slice e)) (hs : P.cellsOf e = sz) (hT : Ty P (n + 1) t ps) (hr : ∀ x, Ty P n e x → ∃ a, Q a ∧ x = f a) :
 ∃ l : List α, ps = [.sl l.length sz (l.flatMap f)] ∧ l.length * P.bytesOf e ≤ reachBytes ∧ ∀ a ∈ l, Q a := by
 obtain ⟨L, rfl, h2, h3⟩ := ty_sliceS hu hs hT
 obtain ⟨l, k1, k2, k3⟩ := zgh (f := f) (Q := Q) fun x hx => hr x (h3 x hx).1
 exact ⟨l, by rw [k1, k2], by rw [k1]; exact h2, k3⟩
def isIfc : Value → Bool
 | .iface _ _ => true
 | _ => false
theorem isIfc_ex {v : Value} (h : isIfc v = true) : ∃ t x, v = .iface t x := by
 cases v <;> simp [isIfc] at h
 exact ⟨_, _, rfl⟩
theorem guard_ifI (op : BinOp) (t : TypeId) (x y : Operand) (te : TypeId) (pe : Value) (w : World) {P : Program} : (eqGuard op t x y (.iface te pe) .nilIface).run P w = .ok () w := by
 unfold eqGuard
 cases op <;> rfl
theorem guard_ifN (op : BinOp) (t : TypeId) (x : Operand) (c : Value) (w : World) {P : Program} : (eqGuard op t x (.const c) .nilIface .nilIface).run P w = .ok () w := by
 unfold eqGuard
 cases op <;> first | rfl | simp
section
variable {P : Program} {d : Option Tmp} {ty : TypeId} {pos : String} {af : Array Edge} {g : Option (Nat × Bool)} {xt yt : TypeId} {x : Operand} {c : Value} {ms : Array (String × TypeId)}
theorem run_ifI (w : World) (hu : P.underlying xt = some (.interface ms)) (te : TypeId) (pe : Value) : (Op.equal xt (.iface te pe) .nilIface).run P w = .ok false w := by
 show (Op.equalIn (9999 + 1) xt (.iface te pe) .nilIface).run P w = .ok false w
 generalize 9999 = d
 simp [Op.equalIn, run_underlying hu]
theorem run_ifN (w : World) (hu : P.underlying xt = some (.interface ms)) : (Op.equal xt .nilIface .nilIface).run P w = .ok true w := by
 show (Op.equalIn (9999 + 1) xt .nilIface .nilIface).run P w = .ok true w
 generalize 9999 = d
 simp [Op.equalIn, run_underlying hu]
theorem a_ifneqI (hu : P.underlying xt = some (.interface ms)) : AOp P ⟨d, .binOp .neq xt x (.const c) yt, ty, pos, af, g⟩ [.sat isIfc, .p (.v .nilIface)] [] [] (qf true) :=
 zaC fun S m w ev hr => by
  obtain ⟨h1, h2⟩ := zcj (u := ev x) (v := ev (.const c)) hr
  simp only [Rep] at h1
  obtain ⟨te, pe, h3⟩ := isIfc_ex h1.1
  exact ⟨.bool true, by simp only [execOp, h3, za8 h2, qbp, guard_ifI, qbi, binOp, run_ifI w hu, qbq]; rfl, za1 rfl⟩
theorem a_ifneqN (hu : P.underlying xt = some (.interface ms)) : AOp P ⟨d, .binOp .neq xt x (.const c) yt, ty, pos, af, g⟩ [.p (.v .nilIface), .p (.v .nilIface)] [] [] (qf false) :=
 zaC fun S m w ev hr => by
  obtain ⟨h1, h2⟩ := zcj (u := ev x) (v := ev (.const c)) hr
  exact ⟨.bool false, by simp only [execOp, za8 h1, za8 h2, qbp, guard_ifN, qbi, binOp, run_ifN w hu, qbq]; rfl, za1 rfl⟩
end
def fnz (f : Nat → Int) : Nat → Int
 | 0 => 0
 | n + 1 => if fnz f n ≠ 0 then fnz f n else f n
theorem zcP {f : Nat → Int} : ∀ {n : Nat}, (∀ j, j < n → f j = 0) → fnz f n = 0
 | 0, _ => rfl
 | n + 1, h => by
  have h1 := zcP (f := f) (n := n) fun j hj => h j qp
  unfold fnz
  rw [h1, if_neg (by simp), h n (by omega)]
theorem zca {f : Nat → Int} {i : Nat} : ∀ {n : Nat}, (∀ j, j < i → f j = 0) → i < n → f i ≠ 0 → fnz f n = f i
 | 0, _, h, _ => by omega
 | n + 1, h1, h2, h3 => by
  unfold fnz
  by_cases e : i = n
  ·subst e
   rw [zcP h1, if_neg (by simp)]
  ·have := zca h1 (n := n) qp h3
   rw [this, if_pos h3]
theorem zg9 {f : Nat → Int} : ∀ {n : Nat}, fnz f n = 0 → ∀ j, j < n → f j = 0
 | 0, _, j, hj => by omega
 | n + 1, h, j, hj => by
  unfold fnz at h
  by_cases h0 : fnz f n ≠ 0
  ·rw [if_pos h0] at h; exact absurd h h0
  ·rw [if_neg h0] at h
   by_cases e : j = n
   ·subst e; exact h
   ·exact zg9 (qbk.1 h0) j qp
theorem zbs {N : Nat} {L : List (List PV)} (h : PV.bdL N L.flatten) : ∀ x ∈ L, PV.bdL N x := fun x hx => zhW.2 fun y hy => zhW.1 h y (List.mem_flatten.2 ⟨x, hx, hy⟩)
def leK (a b : ByteArray) : Bool := sLt a b || decide (a = b)
theorem sLt_empty (a : ByteArray) : sLt a ⟨#[]⟩ = false := by
 unfold sLt
 generalize a.toList = l
 show Op.bytesLess l (ByteArray.toList ⟨#[]⟩) = false
 have : ByteArray.toList ⟨#[]⟩ = [] := by
  unfold ByteArray.toList
  unfold ByteArray.toList.loop
  rfl
 rw [this]
 cases l <;> rfl
def strs (ts : List ByteArray) : List PV := ts.map fun s => qg s
theorem zft (ts : List ByteArray) : (strs ts).length = ts.length := by simp [strs]
theorem strs_push (ts : List ByteArray) (s : ByteArray) : strs ts ++ [qg s] = strs (ts ++ [s]) := by simp [strs]
theorem prep_strs {S : Nat → Prop} {w : World} : ∀ {ts : List ByteArray} {us : List Value}, PRepL S w (strs ts) us → us = ts.map .string
 | [], us, h => by simpa [strs, PRepL] using h
 | t :: ts, us, h => by
  simp only [strs, qbj, PRepL, PRep] at h
  obtain ⟨u, us, rfl, h2, h3⟩ := h
  rw [h2.1, prep_strs (ts := ts) h3]
  rfl
theorem strs_rep {S : Nat → Prop} {w : World} : ∀ ts : List ByteArray, PRepL S w (strs ts) (ts.map .string)
 | [] => by simp [strs, PRepL]
 | t :: ts => by
  simp only [strs, qbj, PRepL, PRep]
  exact ⟨_, _, rfl, ⟨rfl, rfl⟩, strs_rep ts⟩
theorem zg0 {ts : List ByteArray} {i : Nat} {t : ByteArray} (h : ts[i]? = some t) : (strs ts)[i]? = some (qg t) := by simp [strs, h]
theorem fn_alloc {P : Program} {f : FuncId} {args : List AV} {vs : List Value} {e : TypeId} {n : Nat} {cs : List PV} {us : List Value} (ha : zgC args = some vs) (hl : us.length = n) (hn : n ≤ maxLen) (hp : ∀ S w, PRepL S w cs us)
 (h : ∀ w, Calls P f vs.toArray w fun x w' => x = .returned (.slice (some ⟨w.heap.size, 0, none⟩) n n) ∧ w' = w.alloc (.cells us.toArray e)) : Fn P f args (.row 0) [(0, .row e 1 n cs)] := by
 intro w A us' hA hG hus
 rw [zeD ha hus]
 refine (h w).mono ?_
 rintro x w' ⟨rfl, rfl⟩
 refine ⟨_, rfl, A, fun o => if o = 0 then some (.slice (some ⟨w.heap.size, 0, none⟩) n n) else none, ?_, (Below.refl _ w).alloc (Nat.le_refl _) _, fun b hb => .inl hb, fun b hb => ?_, fun o ho => ?_, fun o ob ho => ?_, fun o o' ob ob' v v' b ho ho' _ _ _ _ => ?_, hG⟩
 ·simp only [Rep]
  exact ⟨rfl, _, _, _, rfl⟩
 ·have := hA b hb
  show b < (w.heap.push _).size
  rw [Array.size_push]
  omega
 ·by_cases e : o = 0
  ·subst e; cases ho
  ·simp only [if_neg e]
 ·by_cases e : o = 0
  ·subst e
   cases ho
   refine ⟨_, if_pos rfl, ⟨us, hp _ _, by rw [qcE]; exact hl, .inr ⟨w.heap.size, n, us.toArray, (0, 0), rfl, Nat.le_refl _, ?_, .inl rfl, Nat.le_refl _, hn, by simp [hl], ?_⟩⟩, fun b hb hA' => ?_⟩
   ·show (w.heap.push _)[w.heap.size]? = _
    exact Array.getElem?_push_size
   ·simp only [qcE]
    rw [qbr (by simp [hl])]
   ·simp only [blk, Option.some.injEq] at hb
    subst hb
    exact absurd (hA _ hA') (Nat.lt_irrefl _)
  ·simp only [zaR, nbeq e, cond_false] at ho; cases ho
 ·have key : ∀ {o : Nat} {ob : AObj}, zaR [(0, AObj.row e 1 n cs)] o = .live ob → o = 0 := fun {o ob} ho => by
   by_cases e : o = 0
   ·exact e
   ·simp only [zaR, nbeq e, cond_false] at ho; cases ho
  rw [key ho, key ho']
theorem err_reads {P : Program} {w : World} {n : String} {d : DataW Unit} {g t : Nat} {ms : Array (String × TypeId)} (hg : P.globalNamed n = some g) (hty : (P.globals[g]?).map (·.type) = some t) (ht : P.underlying t = some (.interface ms))
 (h : Lib.VarReads P w n d) : ∃ ev t fz, w.heap[g]? = some (.cells #[ev] t fz) ∧ (ev = .nilIface ∨ ∃ te pe, ev = .iface te pe) := by
 obtain ⟨g', t', cs, fuel, p, h1, h2, h3, h4⟩ := h
 obtain rfl := Option.some.inj (hg.symm.trans h1)
 obtain rfl := Option.some.inj (hty.symm.trans h2)
 obtain ⟨ty, fz, h5⟩ := zhL hg h3
 have key : ∃ ev, cs.toList = [ev] ∧ (ev = .nilIface ∨ ∃ te pe, ev = .iface te pe) := by
  cases fuel with
  | zero => simp [DataW.trod] at h4
  | succ fuel =>
   unfold DataW.trod at h4
   rw [ht] at h4
   split at h4 <;> first | cases h4 | skip
   all_goals first | (rename_i e1 e2; cases e1) | skip
   all_goals simp_all
 obtain ⟨ev, h6, h7⟩ := key
 refine ⟨ev, ty, fz, ?_, h7⟩
 rw [h5]
 have : cs = #[ev] := by rw [← Array.toList_inj, h6]
 rw [this]
theorem tab_reads {P : Program} {w : World} {n : String} {g t e m : Nat} {k : IntKind} {zs : List Int} (hg : P.globalNamed n = some g) (hty : (P.globals[g]?).map (·.type) = some t) (ht : P.underlying t = some (.array m e)) (he : P.underlying e = some (.int k)) (hce : P.cellsOf e = 1) (hct : P.cellsOf t = m)
 (h : Lib.VarReads P w n (Lib.tabData k zs)) : ∃ t fz, w.heap[g]? = some (.cells (zs.map fun z => Value.int k z).toArray t fz) := by
 obtain ⟨g', t', cs, fuel, p, h1, h2, h3, h4⟩ := h
 obtain rfl := Option.some.inj (hg.symm.trans h1)
 obtain rfl := Option.some.inj (hty.symm.trans h2)
 obtain ⟨ty, fz, h5⟩ := zhL hg h3
 have := Lib.cells_of_tab ht he hce hct h4
 refine ⟨ty, fz, ?_⟩
 rw [h5, ← this]
end Go.Proofs.YtlfjpippeeikdaaGreatDoor
namespace Go.Proofs
open Go.Shelf
def Tryz.lays156_ren : Go.Shelf.Ren := ⟨fun | 156 => 219 | 165 => 144 | 166 => 145 | 169 => 147 | 240 => 183 | 241 => 184 | 276 => 204 | 277 => 205 | n => n, fun | 31 => 168 | 9 => 9 | 3 => 3 | 4 => 4 | 0 => 0 | 20 => 20 | 72 => 197 | 76 => 201 | 70 => 195 | 37 => 91 | 75 => 200 | 127 => 233 | 164 => 242 | 5 => 5 | 80 => 166 | n => n, fun | n => n⟩
theorem Tryz.lays156 : Go.Proofs.Lays.n156 Tryz.prog Tryz.lays156_ren := {
 mixed := by kernel_rfl
 f156 := Tryz.func219.trans (congrArg some (by kernel_rfl))
 f165 := Tryz.func144.trans (congrArg some (by kernel_rfl))
 f166 := Tryz.func145.trans (congrArg some (by kernel_rfl))
 f169 := Tryz.func147.trans (congrArg some (by kernel_rfl))
 f240 := Tryz.func183.trans (congrArg some (by kernel_rfl))
 f241 := Tryz.func184.trans (congrArg some (by kernel_rfl))
 f276 := Tryz.func204.trans (congrArg some (by kernel_rfl))
 f277 := Tryz.func205.trans (congrArg some (by kernel_rfl))
 t0 := Tryz.underlying0
 a0 := Tryz.isAgg0
 z0 := Tryz.sizeOf0
 v0 := Tryz.zeroValue0
 t3 := Tryz.underlying3
 a3 := Tryz.isAgg3
 z3 := Tryz.sizeOf3
 v3 := Tryz.zeroValue3
 t4 := Tryz.underlying4
 a4 := Tryz.isAgg4
 z4 := Tryz.sizeOf4
 v4 := Tryz.zeroValue4
 t9 := Tryz.underlying9
 a9 := Tryz.isAgg9
 z9 := Tryz.sizeOf9
 v9 := Tryz.zeroValue9
 t20 := Tryz.underlying20
 a20 := Tryz.isAgg20
 z20 := Tryz.sizeOf20
 v20 := Tryz.zeroValue20
 t31 := Tryz.underlying168
 a31 := Tryz.isAgg168
 z31 := Tryz.sizeOf168
 v31 := Tryz.zeroValue168
 t37 := Tryz.underlying91
 a37 := Tryz.isAgg91
 z37 := Tryz.sizeOf91
 v37 := Tryz.zeroValue91
 t70 := Tryz.underlying195
 a70 := Tryz.isAgg195
 z70 := Tryz.sizeOf195
 v70 := Tryz.zeroValue195
 t72 := Tryz.underlying197
 a72 := Tryz.isAgg197
 z72 := Tryz.sizeOf197
 v72 := Tryz.zeroValue197
 t75 := Tryz.underlying200
 a75 := Tryz.isAgg200
 z75 := Tryz.sizeOf200
 v75 := Tryz.zeroValue200
 t76 := Tryz.underlying201
 a76 := Tryz.isAgg201
 z76 := Tryz.sizeOf201
 v76 := Tryz.zeroValue201
 t127 := Tryz.underlying233
 a127 := Tryz.isAgg233
 z127 := Tryz.sizeOf233
 v127 := Tryz.zeroValue233
 t164 := Tryz.underlying242
 a164 := Tryz.isAgg242
 z164 := Tryz.sizeOf242
 v164 := Tryz.zeroValue242 }
theorem Tryz.Builder_Extra_156 : Builder.Extra Tryz.prog Tryz.lays156_ren := {
 sizeBuilder := by kernel_rfl
 liesBuilder := by kernel_rfl
 t5 := Tryz.underlying5
 a5 := Tryz.isAgg5
 z5 := Tryz.sizeOf5
 v5 := Tryz.zeroValue5
 infoByte := by kernel_rfl
 cellsByte := by kernel_rfl
 sizeByte := by kernel_rfl
 neB5 := by decide }
open Go.RowKit in
theorem Tryz.strings_Join_none (a : Option Addr) (c : Nat) (sep : ByteArray) (w : World) :
  Calls Tryz.prog 219 #[.slice a 0 c, .string sep] w fun e w' => e = .returned (.string ⟨#[]⟩) ∧ w' = w := Any.strings_Join_none Tryz.lays156 Tryz.Builder_Extra_156 a c sep w
open Go.RowKit in
theorem Tryz.strings_Join (bk o c : Nat) (xs : List ByteArray) (sep : ByteArray) (w : World) (hcells : ∀ (j : Nat) x, xs[j]? = some x → w.cell? ⟨bk, o + j, none⟩ = some (.string x)) (hbk : bk < w.heap.size) (hN : xs.length ≤ 140737488355328) (hcap : xs.length ≤ c) (hlen : (Lib.join (xs.map (·.data.toList)) sep.data.toList).length ≤ 140737488355328) :
  Calls Tryz.prog 219 #[.slice (some ⟨bk, o, none⟩) xs.length c, .string sep] w fun e w' => e = .returned (.string ⟨(Lib.join (xs.map (·.data.toList)) sep.data.toList).toArray⟩) ∧ Below w.heap.size w w' := Any.strings_Join Tryz.lays156 Tryz.Builder_Extra_156 bk o c xs sep w hcells hbk hN hcap hlen
def Tryz.lays133_ren : Go.Shelf.Ren := ⟨fun | 133 => 156 | 128 => 187 | n => n, fun | 51 => 80 | 3 => 3 | 4 => 4 | 46 => 191 | 5 => 5 | 9 => 9 | n => n, fun | n => n⟩
theorem Tryz.lays133 : Go.Proofs.Lays.n133 Tryz.prog Tryz.lays133_ren := {
 mixed := by kernel_rfl
 f128 := Tryz.func187.trans (congrArg some (by kernel_rfl))
 f133 := Tryz.func156.trans (congrArg some (by kernel_rfl))
 t3 := Tryz.underlying3
 a3 := Tryz.isAgg3
 z3 := Tryz.sizeOf3
 v3 := Tryz.zeroValue3
 t4 := Tryz.underlying4
 a4 := Tryz.isAgg4
 z4 := Tryz.sizeOf4
 v4 := Tryz.zeroValue4
 t5 := Tryz.underlying5
 a5 := Tryz.isAgg5
 z5 := Tryz.sizeOf5
 v5 := Tryz.zeroValue5
 t9 := Tryz.underlying9
 a9 := Tryz.isAgg9
 z9 := Tryz.sizeOf9
 v9 := Tryz.zeroValue9
 t46 := Tryz.underlying191
 a46 := Tryz.isAgg191
 z46 := Tryz.sizeOf191
 v46 := Tryz.zeroValue191
 t51 := Tryz.underlying80
 a51 := Tryz.isAgg80
 z51 := Tryz.sizeOf80
 v51 := Tryz.zeroValue80 }
theorem Tryz.bits_LeadingZeros32 (x : Int) (w : World) (h0 : 0 ≤ x) (h1 : x ≤ 4294967295) :
  Calls Tryz.prog 156 #[.int .u32 x] w fun e w' => e = .returned (.int .i64 (32 - (Lib.bitLen x.toNat : Int))) ∧ w' = w := Any.bits_LeadingZeros32 Tryz.lays133 x w h0 h1
def Tryz.lays137_ren : Go.Shelf.Ren := ⟨fun | 137 => 141 | 217 => 179 | 266 => 203 | n => n, fun | 9 => 9 | 5 => 5 | 3 => 3 | n => n, fun | n => n⟩
theorem Tryz.lays137 : Go.Proofs.Lays.n137 Tryz.prog Tryz.lays137_ren := {
 mixed := by kernel_rfl
 f137 := Tryz.func141.trans (congrArg some (by kernel_rfl))
 f217 := Tryz.func179.trans (congrArg some (by kernel_rfl))
 f266 := Tryz.func203.trans (congrArg some (by kernel_rfl))
 t3 := Tryz.underlying3
 a3 := Tryz.isAgg3
 z3 := Tryz.sizeOf3
 v3 := Tryz.zeroValue3
 t5 := Tryz.underlying5
 a5 := Tryz.isAgg5
 z5 := Tryz.sizeOf5
 v5 := Tryz.zeroValue5
 t9 := Tryz.underlying9
 a9 := Tryz.isAgg9
 z9 := Tryz.sizeOf9
 v9 := Tryz.zeroValue9 }
open Go.RowKit in
theorem Tryz.strings_IndexByte (s : ByteArray) (c : Int) (w : World) :
  Calls Tryz.prog 141 #[.string s, .int .u8 c] w fun e w' => e = .returned (.int .i64 (Lib.indexByte s.data.toList c.toNat.toUInt8)) ∧ w' = w := Any.strings_IndexByte Tryz.lays137 s c w
def Tryz.laysM171_ren : Go.Shelf.Ren := ⟨fun | 171 => 177 | 243 => 201 | 246 => 217 | 283 => 225 | 284 => 226 | 285 => 227 | 286 => 228 | 129 => 232 | 317 => 231 | 318 => 233 | 319 => 234 | 320 => 235 | 337 => 236 | 338 => 237 | n => n, fun | 3 => 3 | 9 => 9 | 2 => 2 | 4 => 4 | 171 => 264 | 0 => 0 | 53 => 49 | 37 => 91 | 5 => 5 | 173 => 267 | 212 => 279 | 51 => 80 | 20 => 20 | 213 => 280 | 46 => 191 | 232 => 282 | 233 => 283 | n => n, fun | 17 => 5 | 18 => 6 | 19 => 7 | n => n⟩
theorem Tryz.laysM171 : Go.Proofs.LaysM.n171 Tryz.prog Tryz.laysM171_ren := {
 mixed := by kernel_rfl
 f129 := Tryz.func232.trans (congrArg some (by kernel_rfl))
 f171 := Tryz.func177.trans (congrArg some (by kernel_rfl))
 f243 := Tryz.func201.trans (congrArg some (by kernel_rfl))
 f246 := Tryz.func217.trans (congrArg some (by kernel_rfl))
 f283 := Tryz.func225.trans (congrArg some (by kernel_rfl))
 f284 := Tryz.func226.trans (congrArg some (by kernel_rfl))
 f285 := Tryz.func227.trans (congrArg some (by kernel_rfl))
 f286 := Tryz.func228.trans (congrArg some (by kernel_rfl))
 f317 := Tryz.func231.trans (congrArg some (by kernel_rfl))
 f318 := Tryz.func233.trans (congrArg some (by kernel_rfl))
 f319 := Tryz.func234.trans (congrArg some (by kernel_rfl))
 f320 := Tryz.func235.trans (congrArg some (by kernel_rfl))
 f337 := Tryz.func236.trans (congrArg some (by kernel_rfl))
 f338 := Tryz.func237.trans (congrArg some (by kernel_rfl))
 t0 := Tryz.underlying0
 a0 := Tryz.isAgg0
 z0 := Tryz.sizeOf0
 v0 := Tryz.zeroValue0
 t2 := Tryz.underlying2
 a2 := Tryz.isAgg2
 z2 := Tryz.sizeOf2
 v2 := Tryz.zeroValue2
 t3 := Tryz.underlying3
 a3 := Tryz.isAgg3
 z3 := Tryz.sizeOf3
 v3 := Tryz.zeroValue3
 t4 := Tryz.underlying4
 a4 := Tryz.isAgg4
 z4 := Tryz.sizeOf4
 v4 := Tryz.zeroValue4
 t5 := Tryz.underlying5
 a5 := Tryz.isAgg5
 z5 := Tryz.sizeOf5
 v5 := Tryz.zeroValue5
 t9 := Tryz.underlying9
 a9 := Tryz.isAgg9
 z9 := Tryz.sizeOf9
 v9 := Tryz.zeroValue9
 t20 := Tryz.underlying20
 a20 := Tryz.isAgg20
 z20 := Tryz.sizeOf20
 v20 := Tryz.zeroValue20
 t37 := Tryz.underlying91
 a37 := Tryz.isAgg91
 z37 := Tryz.sizeOf91
 v37 := Tryz.zeroValue91
 t46 := Tryz.underlying191
 a46 := Tryz.isAgg191
 z46 := Tryz.sizeOf191
 v46 := Tryz.zeroValue191
 t51 := Tryz.underlying80
 a51 := Tryz.isAgg80
 z51 := Tryz.sizeOf80
 v51 := Tryz.zeroValue80
 t53 := Tryz.underlying49
 a53 := Tryz.isAgg49
 z53 := Tryz.sizeOf49
 v53 := Tryz.zeroValue49
 t171 := Tryz.underlying264
 a171 := Tryz.isAgg264
 z171 := Tryz.sizeOf264
 v171 := Tryz.zeroValue264
 t173 := Tryz.underlying267
 a173 := Tryz.isAgg267
 z173 := Tryz.sizeOf267
 v173 := Tryz.zeroValue267
 t212 := Tryz.underlying279
 a212 := Tryz.isAgg279
 z212 := Tryz.sizeOf279
 v212 := Tryz.zeroValue279
 t213 := Tryz.underlying280
 a213 := Tryz.isAgg280
 z213 := Tryz.sizeOf280
 t232 := Tryz.underlying282
 a232 := Tryz.isAgg282
 z232 := Tryz.sizeOf282
 v232 := Tryz.zeroValue282
 t233 := Tryz.underlying283
 a233 := Tryz.isAgg283
 z233 := Tryz.sizeOf283
 v233 := Tryz.zeroValue283
 g17 := by kernel_rfl
 g18 := by kernel_rfl
 g19 := by kernel_rfl
 i0 := by kernel_rfl
 i2 := by kernel_rfl
 i3 := by kernel_rfl
 i4 := by kernel_rfl
 i5 := by kernel_rfl
 i9 := by kernel_rfl
 i20 := by kernel_rfl
 i37 := by kernel_rfl
 i46 := by kernel_rfl
 i51 := by kernel_rfl
 i53 := by kernel_rfl
 i171 := by kernel_rfl
 i173 := by kernel_rfl
 i212 := by kernel_rfl
 i232 := by kernel_rfl
 i233 := by kernel_rfl
 m17 := by kernel_rfl
 m18 := by kernel_rfl
 m19 := by kernel_rfl }
open Go.RowKit Go.Sort Go.Lib in
theorem Tryz.strconv_Itoa (n : Int) (h0 : -9223372036854775808 ≤ n) (h1 : n ≤ 9223372036854775807) (w : World) (htab : Lib.TabIs Tryz.prog w "internal/strconv.uint64pow10" .u64 Lib.pow10Tab) :
  Calls Tryz.prog 177 #[.int .i64 n] w fun e w' => e = .returned (.string ⟨(Lib.itoa n).toArray⟩) ∧ ∃ k os, w' = grow (w.drewN k) os := Any.strconv_Itoa Tryz.laysM171 n h0 h1 w htab
def Tryz.laysC172_ren : Go.Shelf.Ren := ⟨fun | 172 => 176 | 244 => 199 | 245 => 200 | 247 => 212 | 279 => 213 | 280 => 214 | 281 => 215 | 282 => 216 | 287 => 222 | 316 => 223 | 171 => 177 | 205 => 224 | 321 => 229 | 322 => 230 | 243 => 201 | 246 => 217 | 283 => 225 | 284 => 226 | 285 => 227 | 286 => 228 | 129 => 232 | 317 => 231 | 318 => 233 | 319 => 234 | 320 => 235 | 337 => 236 | 338 => 237 | n => n, fun | 9 => 9 | 3 => 3 | 75 => 200 | 76 => 201 | 4 => 4 | 5 => 5 | 167 => 248 | 37 => 91 | 0 => 0 | 85 => 249 | 2 => 2 | 168 => 251 | 53 => 49 | 175 => 258 | 46 => 191 | 210 => 262 | 127 => 233 | 145 => 277 | 143 => 275 | 21 => 21 | 171 => 264 | 173 => 267 | 212 => 279 | 51 => 80 | 20 => 20 | 213 => 280 | 232 => 282 | 233 => 283 | 80 => 166 | n => n, fun | 15 => 1 | 16 => 2 | 17 => 5 | 18 => 6 | 19 => 7 | n => n⟩
theorem Tryz.laysC172 : Go.Proofs.LaysC.n172 Tryz.prog Tryz.laysC172_ren := {
 mixed := by kernel_rfl
 f129 := Tryz.func232.trans (congrArg some (by kernel_rfl))
 f171 := Tryz.func177.trans (congrArg some (by kernel_rfl))
 f172 := Tryz.func176.trans (congrArg some (by kernel_rfl))
 f205 := Tryz.func224.trans (congrArg some (by kernel_rfl))
 f243 := Tryz.func201.trans (congrArg some (by kernel_rfl))
 f244 := Tryz.func199.trans (congrArg some (by kernel_rfl))
 f245 := Tryz.func200.trans (congrArg some (by kernel_rfl))
 f246 := Tryz.func217.trans (congrArg some (by kernel_rfl))
 f247 := Tryz.func212.trans (congrArg some (by kernel_rfl))
 f279 := Tryz.func213.trans (congrArg some (by kernel_rfl))
 f280 := Tryz.func214.trans (congrArg some (by kernel_rfl))
 f281 := Tryz.func215.trans (congrArg some (by kernel_rfl))
 f282 := Tryz.func216.trans (congrArg some (by kernel_rfl))
 f283 := Tryz.func225.trans (congrArg some (by kernel_rfl))
 f284 := Tryz.func226.trans (congrArg some (by kernel_rfl))
 f285 := Tryz.func227.trans (congrArg some (by kernel_rfl))
 f286 := Tryz.func228.trans (congrArg some (by kernel_rfl))
 f287 := Tryz.func222.trans (congrArg some (by kernel_rfl))
 f316 := Tryz.func223.trans (congrArg some (by kernel_rfl))
 f317 := Tryz.func231.trans (congrArg some (by kernel_rfl))
 f318 := Tryz.func233.trans (congrArg some (by kernel_rfl))
 f319 := Tryz.func234.trans (congrArg some (by kernel_rfl))
 f320 := Tryz.func235.trans (congrArg some (by kernel_rfl))
 f321 := Tryz.func229.trans (congrArg some (by kernel_rfl))
 f322 := Tryz.func230.trans (congrArg some (by kernel_rfl))
 f337 := Tryz.func236.trans (congrArg some (by kernel_rfl))
 f338 := Tryz.func237.trans (congrArg some (by kernel_rfl))
 t0 := Tryz.underlying0
 a0 := Tryz.isAgg0
 z0 := Tryz.sizeOf0
 v0 := Tryz.zeroValue0
 t2 := Tryz.underlying2
 a2 := Tryz.isAgg2
 z2 := Tryz.sizeOf2
 v2 := Tryz.zeroValue2
 t3 := Tryz.underlying3
 a3 := Tryz.isAgg3
 z3 := Tryz.sizeOf3
 v3 := Tryz.zeroValue3
 t4 := Tryz.underlying4
 a4 := Tryz.isAgg4
 z4 := Tryz.sizeOf4
 v4 := Tryz.zeroValue4
 t5 := Tryz.underlying5
 a5 := Tryz.isAgg5
 z5 := Tryz.sizeOf5
 v5 := Tryz.zeroValue5
 t9 := Tryz.underlying9
 a9 := Tryz.isAgg9
 z9 := Tryz.sizeOf9
 v9 := Tryz.zeroValue9
 t20 := Tryz.underlying20
 a20 := Tryz.isAgg20
 z20 := Tryz.sizeOf20
 v20 := Tryz.zeroValue20
 t21 := Tryz.underlying21
 a21 := Tryz.isAgg21
 z21 := Tryz.sizeOf21
 v21 := Tryz.zeroValue21
 t37 := Tryz.underlying91
 a37 := Tryz.isAgg91
 z37 := Tryz.sizeOf91
 v37 := Tryz.zeroValue91
 t46 := Tryz.underlying191
 a46 := Tryz.isAgg191
 z46 := Tryz.sizeOf191
 v46 := Tryz.zeroValue191
 t51 := Tryz.underlying80
 a51 := Tryz.isAgg80
 z51 := Tryz.sizeOf80
 v51 := Tryz.zeroValue80
 t53 := Tryz.underlying49
 a53 := Tryz.isAgg49
 z53 := Tryz.sizeOf49
 v53 := Tryz.zeroValue49
 t75 := Tryz.underlying200
 a75 := Tryz.isAgg200
 z75 := Tryz.sizeOf200
 v75 := Tryz.zeroValue200
 t76 := Tryz.underlying201
 a76 := Tryz.isAgg201
 z76 := Tryz.sizeOf201
 v76 := Tryz.zeroValue201
 t85 := Tryz.underlying249
 a85 := Tryz.isAgg249
 z85 := Tryz.sizeOf249
 v85 := Tryz.zeroValue249
 t127 := Tryz.underlying233
 a127 := Tryz.isAgg233
 z127 := Tryz.sizeOf233
 v127 := Tryz.zeroValue233
 t143 := Tryz.underlying275
 a143 := Tryz.isAgg275
 z143 := Tryz.sizeOf275
 v143 := Tryz.zeroValue275
 t145 := Tryz.underlying277
 a145 := Tryz.isAgg277
 z145 := Tryz.sizeOf277
 v145 := Tryz.zeroValue277
 t167 := Tryz.underlying248
 a167 := Tryz.isAgg248
 z167 := Tryz.sizeOf248
 v167 := Tryz.zeroValue248
 t168 := Tryz.underlying251
 a168 := Tryz.isAgg251
 z168 := Tryz.sizeOf251
 v168 := Tryz.zeroValue251
 t171 := Tryz.underlying264
 a171 := Tryz.isAgg264
 z171 := Tryz.sizeOf264
 v171 := Tryz.zeroValue264
 t173 := Tryz.underlying267
 a173 := Tryz.isAgg267
 z173 := Tryz.sizeOf267
 v173 := Tryz.zeroValue267
 t175 := Tryz.underlying258
 a175 := Tryz.isAgg258
 z175 := Tryz.sizeOf258
 v175 := Tryz.zeroValue258
 t210 := Tryz.underlying262
 a210 := Tryz.isAgg262
 z210 := Tryz.sizeOf262
 v210 := Tryz.zeroValue262
 t212 := Tryz.underlying279
 a212 := Tryz.isAgg279
 z212 := Tryz.sizeOf279
 v212 := Tryz.zeroValue279
 t213 := Tryz.underlying280
 a213 := Tryz.isAgg280
 z213 := Tryz.sizeOf280
 t232 := Tryz.underlying282
 a232 := Tryz.isAgg282
 z232 := Tryz.sizeOf282
 v232 := Tryz.zeroValue282
 t233 := Tryz.underlying283
 a233 := Tryz.isAgg283
 z233 := Tryz.sizeOf283
 v233 := Tryz.zeroValue283
 g15 := by kernel_rfl
 g16 := by kernel_rfl
 g17 := by kernel_rfl
 g18 := by kernel_rfl
 g19 := by kernel_rfl
 t80 := Tryz.underlying166
 a80 := Tryz.isAgg166
 z80 := Tryz.sizeOf166
 v80 := Tryz.zeroValue166
 i0 := by kernel_rfl
 i2 := by kernel_rfl
 i3 := by kernel_rfl
 i4 := by kernel_rfl
 i5 := by kernel_rfl
 i9 := by kernel_rfl
 i20 := by kernel_rfl
 i21 := by kernel_rfl
 i37 := by kernel_rfl
 i46 := by kernel_rfl
 i51 := by kernel_rfl
 i53 := by kernel_rfl
 i75 := by kernel_rfl
 i76 := by kernel_rfl
 i80 := by kernel_rfl
 i85 := by kernel_rfl
 i127 := by kernel_rfl
 i143 := by kernel_rfl
 i145 := by kernel_rfl
 i167 := by kernel_rfl
 i168 := by kernel_rfl
 i171 := by kernel_rfl
 i173 := by kernel_rfl
 i175 := by kernel_rfl
 i210 := by kernel_rfl
 i212 := by kernel_rfl
 i232 := by kernel_rfl
 i233 := by kernel_rfl
 m15 := by kernel_rfl
 m16 := by kernel_rfl
 m17 := by kernel_rfl
 m18 := by kernel_rfl
 m19 := by kernel_rfl
 c0 := by kernel_rfl
 c2 := by kernel_rfl
 c3 := by kernel_rfl
 c4 := by kernel_rfl
 c5 := by kernel_rfl
 c9 := by kernel_rfl
 c20 := by kernel_rfl
 c21 := by kernel_rfl
 c37 := by kernel_rfl
 c46 := by kernel_rfl
 c51 := by kernel_rfl
 c53 := by kernel_rfl
 c75 := by kernel_rfl
 c76 := by kernel_rfl
 c80 := by kernel_rfl
 c85 := by kernel_rfl
 c127 := by kernel_rfl
 c143 := by kernel_rfl
 c145 := by kernel_rfl
 c167 := by kernel_rfl
 c168 := by kernel_rfl
 c171 := by kernel_rfl
 c173 := by kernel_rfl
 c175 := by kernel_rfl
 c210 := by kernel_rfl
 c212 := by kernel_rfl
 c213 := by kernel_rfl
 c232 := by kernel_rfl
 c233 := by kernel_rfl }
open Go.RowKit in
theorem Tryz.strconv_Atoi_ok (s : ByteArray) (hmax : s.size ≤ 9223372036854775806) (v : Int) (h : Lib.atoiAll s.data.toList = .ok v) (w : World) :
  Calls Tryz.prog 176 #[.string s] w fun e w' => e = .returned (.tuple #[.int .i64 v, .nilIface]) ∧ (w' = w ∨ ∃ t, w' = Lib.bytesWorld w 5 t) := Any.strconv_Atoi_ok Tryz.laysC172 s hmax v h w
def Tryz.lays217_ren : Go.Shelf.Ren := ⟨fun | 217 => 179 | 266 => 203 | n => n, fun | 9 => 9 | 5 => 5 | 3 => 3 | n => n, fun | n => n⟩
theorem Tryz.lays217 : Go.Proofs.Lays.n217 Tryz.prog Tryz.lays217_ren := {
 mixed := by kernel_rfl
 f217 := Tryz.func179.trans (congrArg some (by kernel_rfl))
 f266 := Tryz.func203.trans (congrArg some (by kernel_rfl))
 t3 := Tryz.underlying3
 a3 := Tryz.isAgg3
 z3 := Tryz.sizeOf3
 v3 := Tryz.zeroValue3
 t5 := Tryz.underlying5
 a5 := Tryz.isAgg5
 z5 := Tryz.sizeOf5
 v5 := Tryz.zeroValue5
 t9 := Tryz.underlying9
 a9 := Tryz.isAgg9
 z9 := Tryz.sizeOf9
 v9 := Tryz.zeroValue9 }
open Go.RowKit Go.Lib in
theorem Tryz.stringslite_IndexByte (s : ByteArray) (c : Int) (w : World) :
  Calls Tryz.prog 179 #[.string s, .int .u8 c] w fun e w' => e = .returned (.int .i64 (Lib.indexByte s.data.toList c.toNat.toUInt8)) ∧ w' = w := Any.stringslite_IndexByte Tryz.lays217 s c w
def Tryz.lays143_ren : Go.Shelf.Ren := ⟨fun | 143 => 135 | 219 => 175 | 217 => 179 | 225 => 196 | 224 => 197 | 267 => 198 | 266 => 203 | 314 => 211 | n => n, fun | 9 => 9 | 3 => 3 | 4 => 4 | 5 => 5 | 46 => 191 | 146 => 229 | 51 => 80 | n => n, fun | 1 => 0 | n => n⟩
theorem Tryz.lays143 : Go.Proofs.Lays.n143 Tryz.prog Tryz.lays143_ren := {
 mixed := by kernel_rfl
 f143 := Tryz.func135.trans (congrArg some (by kernel_rfl))
 f217 := Tryz.func179.trans (congrArg some (by kernel_rfl))
 f219 := Tryz.func175.trans (congrArg some (by kernel_rfl))
 f224 := Tryz.func197.trans (congrArg some (by kernel_rfl))
 f225 := Tryz.func196.trans (congrArg some (by kernel_rfl))
 f266 := Tryz.func203.trans (congrArg some (by kernel_rfl))
 f267 := Tryz.func198.trans (congrArg some (by kernel_rfl))
 f314 := Tryz.func211.trans (congrArg some (by kernel_rfl))
 t3 := Tryz.underlying3
 a3 := Tryz.isAgg3
 z3 := Tryz.sizeOf3
 v3 := Tryz.zeroValue3
 t4 := Tryz.underlying4
 a4 := Tryz.isAgg4
 z4 := Tryz.sizeOf4
 v4 := Tryz.zeroValue4
 t5 := Tryz.underlying5
 a5 := Tryz.isAgg5
 z5 := Tryz.sizeOf5
 v5 := Tryz.zeroValue5
 t9 := Tryz.underlying9
 a9 := Tryz.isAgg9
 z9 := Tryz.sizeOf9
 v9 := Tryz.zeroValue9
 t46 := Tryz.underlying191
 a46 := Tryz.isAgg191
 z46 := Tryz.sizeOf191
 v46 := Tryz.zeroValue191
 t51 := Tryz.underlying80
 a51 := Tryz.isAgg80
 z51 := Tryz.sizeOf80
 v51 := Tryz.zeroValue80
 t146 := Tryz.underlying229
 a146 := Tryz.isAgg229
 z146 := Tryz.sizeOf229
 v146 := Tryz.zeroValue229
 g1 := by kernel_rfl }
open Go.RowKit Go.Lib in
theorem Tryz.strings_Index_one (s : ByteArray) (c : UInt8) (w : World) :
  Calls Tryz.prog 135 #[.string s, .string ⟨#[c]⟩] w fun e w' => e = .returned (.int .i64 (Lib.indexByte s.data.toList c)) ∧ w' = w := Any.strings_Index_one Tryz.lays143 s c w
def Tryz.lays138_ren : Go.Shelf.Ren := ⟨fun | 138 => 134 | 195 => 173 | 218 => 174 | 143 => 135 | 219 => 175 | 217 => 179 | 225 => 196 | 224 => 197 | 267 => 198 | 266 => 203 | 314 => 211 | n => n, fun | 9 => 9 | 3 => 3 | 4 => 4 | 5 => 5 | 0 => 0 | 46 => 191 | 146 => 229 | 51 => 80 | n => n, fun | 1 => 0 | n => n⟩
theorem Tryz.lays138 : Go.Proofs.Lays.n138 Tryz.prog Tryz.lays138_ren := {
 mixed := by kernel_rfl
 f138 := Tryz.func134.trans (congrArg some (by kernel_rfl))
 f143 := Tryz.func135.trans (congrArg some (by kernel_rfl))
 f195 := Tryz.func173.trans (congrArg some (by kernel_rfl))
 f217 := Tryz.func179.trans (congrArg some (by kernel_rfl))
 f218 := Tryz.func174.trans (congrArg some (by kernel_rfl))
 f219 := Tryz.func175.trans (congrArg some (by kernel_rfl))
 f224 := Tryz.func197.trans (congrArg some (by kernel_rfl))
 f225 := Tryz.func196.trans (congrArg some (by kernel_rfl))
 f266 := Tryz.func203.trans (congrArg some (by kernel_rfl))
 f267 := Tryz.func198.trans (congrArg some (by kernel_rfl))
 f314 := Tryz.func211.trans (congrArg some (by kernel_rfl))
 t0 := Tryz.underlying0
 a0 := Tryz.isAgg0
 z0 := Tryz.sizeOf0
 v0 := Tryz.zeroValue0
 t3 := Tryz.underlying3
 a3 := Tryz.isAgg3
 z3 := Tryz.sizeOf3
 v3 := Tryz.zeroValue3
 t4 := Tryz.underlying4
 a4 := Tryz.isAgg4
 z4 := Tryz.sizeOf4
 v4 := Tryz.zeroValue4
 t5 := Tryz.underlying5
 a5 := Tryz.isAgg5
 z5 := Tryz.sizeOf5
 v5 := Tryz.zeroValue5
 t9 := Tryz.underlying9
 a9 := Tryz.isAgg9
 z9 := Tryz.sizeOf9
 v9 := Tryz.zeroValue9
 t46 := Tryz.underlying191
 a46 := Tryz.isAgg191
 z46 := Tryz.sizeOf191
 v46 := Tryz.zeroValue191
 t51 := Tryz.underlying80
 a51 := Tryz.isAgg80
 z51 := Tryz.sizeOf80
 v51 := Tryz.zeroValue80
 t146 := Tryz.underlying229
 a146 := Tryz.isAgg229
 z146 := Tryz.sizeOf229
 v146 := Tryz.zeroValue229
 g1 := by kernel_rfl }
open Go.RowKit Go.Lib in
theorem Tryz.strings_Count_one (s : ByteArray) (c : UInt8) (w : World) :
  Calls Tryz.prog 134 #[.string s, .string ⟨#[c]⟩] w fun e w' => e = .returned (.int .i64 (Lib.countByte s.data.toList c)) ∧ w' = w := Any.strings_Count_one Tryz.lays138 s c w
def Tryz.lays221_ren : Go.Shelf.Ren := ⟨fun | 221 => 161 | 268 => 188 | 138 => 134 | 143 => 135 | 195 => 173 | 197 => 206 | 218 => 174 | 219 => 175 | 260 => 218 | 217 => 179 | 225 => 196 | 224 => 197 | 267 => 198 | 266 => 203 | 314 => 211 | n => n, fun | 9 => 9 | 3 => 3 | 31 => 168 | 4 => 4 | 0 => 0 | 105 => 245 | 21 => 21 | 5 => 5 | 46 => 191 | 119 => 269 | 139 => 272 | 138 => 271 | 146 => 229 | 51 => 80 | n => n, fun | 1 => 0 | 3 => 3 | 4 => 4 | n => n⟩
theorem Tryz.lays221 : Go.Proofs.Lays.n221 Tryz.prog Tryz.lays221_ren := {
 mixed := by kernel_rfl
 f138 := Tryz.func134.trans (congrArg some (by kernel_rfl))
 f143 := Tryz.func135.trans (congrArg some (by kernel_rfl))
 f195 := Tryz.func173.trans (congrArg some (by kernel_rfl))
 f197 := Tryz.func206.trans (congrArg some (by kernel_rfl))
 f217 := Tryz.func179.trans (congrArg some (by kernel_rfl))
 f218 := Tryz.func174.trans (congrArg some (by kernel_rfl))
 f219 := Tryz.func175.trans (congrArg some (by kernel_rfl))
 f221 := Tryz.func161.trans (congrArg some (by kernel_rfl))
 f224 := Tryz.func197.trans (congrArg some (by kernel_rfl))
 f225 := Tryz.func196.trans (congrArg some (by kernel_rfl))
 f260 := Tryz.func218.trans (congrArg some (by kernel_rfl))
 f266 := Tryz.func203.trans (congrArg some (by kernel_rfl))
 f267 := Tryz.func198.trans (congrArg some (by kernel_rfl))
 f268 := Tryz.func188.trans (congrArg some (by kernel_rfl))
 f314 := Tryz.func211.trans (congrArg some (by kernel_rfl))
 t0 := Tryz.underlying0
 a0 := Tryz.isAgg0
 z0 := Tryz.sizeOf0
 v0 := Tryz.zeroValue0
 t3 := Tryz.underlying3
 a3 := Tryz.isAgg3
 z3 := Tryz.sizeOf3
 v3 := Tryz.zeroValue3
 t4 := Tryz.underlying4
 a4 := Tryz.isAgg4
 z4 := Tryz.sizeOf4
 v4 := Tryz.zeroValue4
 t5 := Tryz.underlying5
 a5 := Tryz.isAgg5
 z5 := Tryz.sizeOf5
 v5 := Tryz.zeroValue5
 t9 := Tryz.underlying9
 a9 := Tryz.isAgg9
 z9 := Tryz.sizeOf9
 v9 := Tryz.zeroValue9
 t21 := Tryz.underlying21
 a21 := Tryz.isAgg21
 z21 := Tryz.sizeOf21
 v21 := Tryz.zeroValue21
 t31 := Tryz.underlying168
 a31 := Tryz.isAgg168
 z31 := Tryz.sizeOf168
 v31 := Tryz.zeroValue168
 t46 := Tryz.underlying191
 a46 := Tryz.isAgg191
 z46 := Tryz.sizeOf191
 v46 := Tryz.zeroValue191
 t51 := Tryz.underlying80
 a51 := Tryz.isAgg80
 z51 := Tryz.sizeOf80
 v51 := Tryz.zeroValue80
 t105 := Tryz.underlying245
 a105 := Tryz.isAgg245
 z105 := Tryz.sizeOf245
 v105 := Tryz.zeroValue245
 t119 := Tryz.underlying269
 a119 := Tryz.isAgg269
 z119 := Tryz.sizeOf269
 t138 := Tryz.underlying271
 a138 := Tryz.isAgg271
 z138 := Tryz.sizeOf271
 v138 := Tryz.zeroValue271
 t139 := Tryz.underlying272
 a139 := Tryz.isAgg272
 z139 := Tryz.sizeOf272
 v139 := Tryz.zeroValue272
 t146 := Tryz.underlying229
 a146 := Tryz.isAgg229
 z146 := Tryz.sizeOf229
 v146 := Tryz.zeroValue229
 g1 := by kernel_rfl
 g3 := by kernel_rfl
 g4 := by kernel_rfl }
def Tryz.lays105_ren : Go.Shelf.Ren := ⟨fun | 105 => 100 | 212 => 142 | 99 => 143 | 165 => 144 | 166 => 145 | 170 => 146 | 169 => 147 | 263 => 180 | 264 => 181 | 206 => 182 | 240 => 183 | 241 => 184 | 276 => 204 | 277 => 205 | n => n, fun | 9 => 9 | 3 => 3 | 4 => 4 | 20 => 20 | 0 => 0 | 46 => 191 | 109 => 192 | 5 => 5 | 72 => 197 | 76 => 201 | 51 => 80 | 146 => 229 | 53 => 49 | 148 => 231 | 70 => 195 | 37 => 91 | 75 => 200 | 127 => 233 | 164 => 242 | 80 => 166 | n => n, fun | n => n⟩
theorem Tryz.lays105 : Go.Proofs.Lays.n105 Tryz.prog Tryz.lays105_ren := {
 mixed := by kernel_rfl
 f99 := Tryz.func143.trans (congrArg some (by kernel_rfl))
 f105 := Tryz.func100.trans (congrArg some (by kernel_rfl))
 f165 := Tryz.func144.trans (congrArg some (by kernel_rfl))
 f166 := Tryz.func145.trans (congrArg some (by kernel_rfl))
 f169 := Tryz.func147.trans (congrArg some (by kernel_rfl))
 f170 := Tryz.func146.trans (congrArg some (by kernel_rfl))
 f206 := Tryz.func182.trans (congrArg some (by kernel_rfl))
 f212 := Tryz.func142.trans (congrArg some (by kernel_rfl))
 f240 := Tryz.func183.trans (congrArg some (by kernel_rfl))
 f241 := Tryz.func184.trans (congrArg some (by kernel_rfl))
 f263 := Tryz.func180.trans (congrArg some (by kernel_rfl))
 f264 := Tryz.func181.trans (congrArg some (by kernel_rfl))
 f276 := Tryz.func204.trans (congrArg some (by kernel_rfl))
 f277 := Tryz.func205.trans (congrArg some (by kernel_rfl))
 t0 := Tryz.underlying0
 a0 := Tryz.isAgg0
 z0 := Tryz.sizeOf0
 v0 := Tryz.zeroValue0
 t3 := Tryz.underlying3
 a3 := Tryz.isAgg3
 z3 := Tryz.sizeOf3
 v3 := Tryz.zeroValue3
 t4 := Tryz.underlying4
 a4 := Tryz.isAgg4
 z4 := Tryz.sizeOf4
 v4 := Tryz.zeroValue4
 t5 := Tryz.underlying5
 a5 := Tryz.isAgg5
 z5 := Tryz.sizeOf5
 v5 := Tryz.zeroValue5
 t9 := Tryz.underlying9
 a9 := Tryz.isAgg9
 z9 := Tryz.sizeOf9
 v9 := Tryz.zeroValue9
 t20 := Tryz.underlying20
 a20 := Tryz.isAgg20
 z20 := Tryz.sizeOf20
 v20 := Tryz.zeroValue20
 t37 := Tryz.underlying91
 a37 := Tryz.isAgg91
 z37 := Tryz.sizeOf91
 v37 := Tryz.zeroValue91
 t46 := Tryz.underlying191
 a46 := Tryz.isAgg191
 z46 := Tryz.sizeOf191
 v46 := Tryz.zeroValue191
 t51 := Tryz.underlying80
 a51 := Tryz.isAgg80
 z51 := Tryz.sizeOf80
 v51 := Tryz.zeroValue80
 t53 := Tryz.underlying49
 a53 := Tryz.isAgg49
 z53 := Tryz.sizeOf49
 v53 := Tryz.zeroValue49
 t70 := Tryz.underlying195
 a70 := Tryz.isAgg195
 z70 := Tryz.sizeOf195
 v70 := Tryz.zeroValue195
 t72 := Tryz.underlying197
 a72 := Tryz.isAgg197
 z72 := Tryz.sizeOf197
 v72 := Tryz.zeroValue197
 t75 := Tryz.underlying200
 a75 := Tryz.isAgg200
 z75 := Tryz.sizeOf200
 v75 := Tryz.zeroValue200
 t76 := Tryz.underlying201
 a76 := Tryz.isAgg201
 z76 := Tryz.sizeOf201
 v76 := Tryz.zeroValue201
 t109 := Tryz.underlying192
 a109 := Tryz.isAgg192
 z109 := Tryz.sizeOf192
 v109 := Tryz.zeroValue192
 t127 := Tryz.underlying233
 a127 := Tryz.isAgg233
 z127 := Tryz.sizeOf233
 v127 := Tryz.zeroValue233
 t146 := Tryz.underlying229
 a146 := Tryz.isAgg229
 z146 := Tryz.sizeOf229
 v146 := Tryz.zeroValue229
 t148 := Tryz.underlying231
 a148 := Tryz.isAgg231
 z148 := Tryz.sizeOf231
 v148 := Tryz.zeroValue231
 t164 := Tryz.underlying242
 a164 := Tryz.isAgg242
 z164 := Tryz.sizeOf242
 v164 := Tryz.zeroValue242 }
theorem Tryz.Builder_Extra_105 : Builder.Extra Tryz.prog Tryz.lays105_ren := {
 sizeBuilder := by kernel_rfl
 liesBuilder := by kernel_rfl
 t5 := Tryz.underlying5
 a5 := Tryz.isAgg5
 z5 := Tryz.sizeOf5
 v5 := Tryz.zeroValue5
 infoByte := by kernel_rfl
 cellsByte := by kernel_rfl
 sizeByte := by kernel_rfl
 neB5 := by decide }
open Go.RowKit Go.Lib in
theorem Tryz.strings_Repeat (s : ByteArray) (c : Nat) (w : World) (hc : c ≤ 9223372036854775807) (hlen : s.size * c ≤ 140737488355328) :
  Calls Tryz.prog 100 #[.string s, .int .i64 c] w fun e w' => e = .returned (.string ⟨(Lib.repeatL s.data.toList c).toArray⟩) ∧ Below w.heap.size w w' := Any.strings_Repeat Tryz.lays105 Tryz.Builder_Extra_105 s c w hc hlen
end Go.Proofs
namespace Go.Proofs.YtlfjpippeeikdaaGreatDoor
open Tryz
open Go.RowKit Go.Sort
theorem GI.tab {w : World} (h : GI w) : Lib.TabIs prog w "internal/strconv.uint64pow10" .u64 Lib.pow10Tab := by
 obtain ⟨t, fz, h1⟩ := h.2 _ (qcv ..)
 exact var_of_heap qr h1
theorem GI.err {w : World} (h : GI w) {g : Nat} (hg : g ∈ gErr) : ∃ ev, w.cell? ⟨g, 0, none⟩ = some ev ∧ (ev = .nilIface ∨ ∃ te pe, ev = .iface te pe) := by
 obtain ⟨ev, t, fz, h1, h2⟩ := h.1 g hg
 exact ⟨ev, cell_of_row w g 0 #[ev] t fz h1, h2⟩
theorem zfT {P : Program} {f : FuncId} {args : List AV} {vs : List Value} {res : AV} (ha : zgC args = some vs) (h : ∀ w : World, GI w → Calls P f vs.toArray w fun e w' => ∃ r, e = .returned r ∧ (∀ S m w, Rep S m w res r) ∧ Below w.heap.size w w') : Fn P f args res [] := by
 intro w A us hA hG hus
 rw [zeD ha hus]
 refine (h w hG).mono ?_
 rintro e w' ⟨r, rfl, hr, hb⟩
 exact ⟨r, rfl, A, fun _ => none, hr _ _ _, hb, fun b hb => .inl hb, fun b h => qct (hA b h) hb.size, fun o _ => rfl, fun o ob ho => qaG, fun o o' ob ob' v v' b ho => qaG, hG⟩
theorem grow_below (w : World) (k : Nat) (os : Array Obj) : Below w.heap.size w (grow (w.drewN k) os) :=
 (zhV (Below.refl _ w) k).trans ⟨rfl, rfl, rfl, by simp [grow], fun b hb => by
  show (w.heap ++ os)[b]? = w.heap[b]?
  rw [Array.getElem?_append_left hb]⟩
theorem zfM (n : Int) (h0 : -9223372036854775808 ≤ n) (h1 : n ≤ 9223372036854775807) : Fn prog 177 [qd n] (qc (itoS n)) [] :=
 zfT (vs := [.int .i64 n]) rfl fun w hG => (strconv_Itoa n h0 h1 w hG.tab).mono fun e w' ⟨he, k, os, hw⟩ => ⟨_, he, fun S m w => za1 rfl, by rw [hw]; exact grow_below w k os⟩
theorem ziN {S : Nat → Prop} {m : Nat → Option Value} {w : World} {x y : AV} {u v : Value} (h1 : Rep S m w x u) (h2 : Rep S m w y v) : Rep S m w (.tup [x, y]) (.tuple #[u, v]) := by
 simp only [Rep, RepL]
 exact ⟨[u, v], rfl, u, [v], rfl, h1, v, [], rfl, h2, rfl⟩
theorem atoi_ok (s : ByteArray) (v : Int) (hs : s.size ≤ 140737488351232) (h : Lib.atoiAll s.data.toList = .ok v) : Fn prog 176 [qc s] (.tup [qd v, .p (.v .nilIface)]) [] :=
 zfT (vs := [.string s]) rfl fun w hG => (strconv_Atoi_ok s qp v h w).mono fun e w' ⟨he, hw⟩ => ⟨_, he, fun S m w => ziN (za1 rfl) (za1 rfl), by
  rcases hw with rfl | ⟨t, rfl⟩
  ·exact Below.refl _ _
  ·exact Lib.bytesWorld_below _ _ _⟩
theorem atoi_bad (s : ByteArray) (hs : s.size ≤ 140737488351232) (h : ∀ v, Lib.atoiAll s.data.toList ≠ .ok v) : ∃ n : Int, Fn prog 176 [qc s] (.tup [qd n, .sat isIfc]) [] := by
 cases hr : Lib.atoiAll s.data.toList
 ·exact absurd hr (h _)
 ·refine ⟨0, zfT (vs := [.string s]) rfl fun w hG => ?_⟩
  obtain ⟨ev, h1, h2⟩ := hG.err (g := 1) qE
  exact (Any.strconv_Atoi_syntax Tryz.laysC172 s qp hr ev w h1 h2).mono fun e w' ⟨N, he, _, _, hb⟩ => ⟨_, he, fun S m w => ziN (za1 rfl) (by simp only [Rep]; exact ⟨rfl, rfl⟩), hb⟩
 ·refine ⟨Lib.atoiSat s.data.toList, zfT (vs := [.string s]) rfl fun w hG => ?_⟩
  obtain ⟨ev, h1, h2⟩ := hG.err (g := 2) qE
  exact (Any.strconv_Atoi_range Tryz.laysC172 s qp hr ev w h1 h2).mono fun e w' ⟨N, he, _, _, hb⟩ => ⟨_, he, fun S m w => ziN (za1 rfl) (by simp only [Rep]; exact ⟨rfl, rfl⟩), hb⟩
def smV (s : ByteArray) : Int := if canS s = true then (valS s : Int) else 0
theorem small_s (s : ByteArray) (most : Int) (hs : s.size ≤ 140737488351232) : Fn prog 163 [qc s, qd most] (.tup [qd (smV s), qf (numB s most)]) [] := by
 obtain ⟨V, hV⟩ : ∃ V, smV s = V := ⟨_, rfl⟩
 obtain ⟨B, hB⟩ : ∃ B, numB s most = B := ⟨_, rfl⟩
 rw [hV, hB]
 unfold smV at hV
 unfold numB at hB
 refine fnI fun w0 A => ?_
 refine G [13] ?_
 refine mb2 _ rfl rfl (fun hb => (zdz U9)) (fun _ => trivial) ?_
 refine G [1, 2, 2] ?_
 refine mb2 _ rfl rfl (fun hb => (zdz U9)) (fun _ => trivial) ?_
 refine G [3] ?_
 refine mb2 _ rfl rfl (fun hb => (zb4 U9 qp (zgb (s := s) (i := 0) (by simp at hb; omega)))) (fun _ => trivial) ?_
 refine mb2 _ rfl rfl (fun hb => zbH) (fun _ => trivial) ?_
 refine r_mb3 _ rfl rfl (.mb _ _ _ _ qaY (.keep _ _ _ (.keep _ _ _ .nil))) (fun hb => (a_and qau)) (fun _ => trivial) ?_
 refine G [0, 2, 1, 9, 0] ?_
 refine cX ?_ ?_ <;> intro h
 ·have hc : canS s = false := by
   simp only [Bool.or_eq_true, qbv, decide_eq_true_eq, beq_iff_eq] at h
   refine canS_not ?_
   rcases h with (h | h) | ⟨h1, h2⟩
   ·exact .inl qp
   ·exact .inr (.inl qp)
   ·exact .inr (.inr (.inl ⟨qp, h2⟩))
  rw [hc] at hV hB
  subst hV
  subst hB
  exact jaH
 have h0 : s.size ≠ 0 ∧ s.size ≤ 5 ∧ (1 < s.size → sAt s 0 ≠ 48) := by
  simp only [qcg, qcr, decide_eq_false_iff_not, beq_eq_false_iff_ne] at h
  obtain ⟨⟨h1, h2⟩, h3⟩ := h
  exact ⟨qp, qp, fun h4 => by rcases h3 with h3 | h3 <;> first | omega | exact h3⟩
 clear h
 obtain ⟨z0, z5, zz⟩ := h0
 refine G [13] ?_
 refine zac (fun m st => ∃ i : Nat, m + i = s.size ∧ (∀ j, j < i → digS (sAt s j) = true) ∧ st = St.of [(0, qc s), (1, qd most), (6, qd (valT s i)), (27, qd s.size), (28, qd i)] []) s.size ?_ ?_
 ·refine jeC ?_ ?_
  ·refine ⟨⟨rfl, rfl⟩, ⟨rfl, rfl⟩, ⟨?_, rfl⟩, ⟨rfl, rfl⟩, ⟨rfl, rfl⟩, trivial⟩
   rw [valT_zero]; rfl
  ·trivial
 rintro m st ⟨i, hi, hf, rfl⟩
 refine G [5] ?_
 refine cX ?_ ?_ <;> intro h
 ·have hlt : i < s.size := qu
  clear h
  have g1 := zgb hlt
  have hsu := @valT_succ s i hlt
  have hn := @canS_not s
  have hb := sAt_B hlt
  have hv0 := valT_in (Nat.le_of_lt hlt) qp hf
  generalize hc : sAt s i = c at *
  generalize valT s i = v at *
  refine G [13] ?_
  refine jeG ?_
  refine G [4] ?_
  refine mb2 _ rfl rfl (fun hb => (zb4 U9 qp (by rw [qbx]; exact g1))) (fun _ => trivial) ?_
  refine G [1, 2, 1, 9, 0] ?_
  refine cX ?_ ?_ <;> intro h
  ·have hd : digS c = false := by
    unfold digS
    simp at h ⊢
    omega
   rw [hn (.inr (.inr (.inr ⟨i, hlt, by rw [hc]; exact hd⟩)))] at hV hB
   subst hV
   subst hB
   exact jaH
  have hd : digS c = true := by
   unfold digS
   simp at h ⊢
   omega
  clear h
  have hs1 := hsu hd
  have hd' := hd
  unfold digS at hd'
  simp only [qbv, decide_eq_true_eq] at hd'
  refine G [6] ?_
  refine jeG ?_
  refine G [9, 9, 0] ?_
  refine ⟨m - 1, qp, _, zae id _ _ ?_ ?_ rfl, i + 1, qp, ?_, rfl⟩
  ·refine ⟨⟨rfl, rfl⟩, ⟨rfl, rfl⟩, ⟨?_, rfl⟩, ⟨rfl, rfl⟩, ⟨rfl, rfl⟩, trivial⟩
   rw [hs1]; rfl
  ·trivial
  ·intro j hj
   by_cases e : j = i
   ·subst e; rw [hc]; exact hd
   ·exact hf j qp
 have hge : i = s.size := qu
 clear h
 subst hge
 have hcan := canS_dig z0 z5 zz hf
 rw [hcan] at hV hB
 rw [if_pos rfl] at hV
 rw [valT_all, hV]
 rw [hV, Bool.true_and] at hB
 subst hB
 refine G [11, 9, 0] ?_
 exact yE
def numR (s : ByteArray) (most : Int) : AV := .tup [qd (numV s most), qd (numE s most)]
theorem zhw {s : ByteArray} {most : Int} (h : numB s most = true) : numR s most = .tup [qd (valS s : Nat), qd 0] := by unfold numR numV numE; rw [h]; rfl
theorem zg6 {s : ByteArray} {most : Int} (h : numB s most = false) : numR s most = .tup [qd 0, qd 3] := by unfold numR numV numE; rw [h]; rfl
theorem zeI {s : ByteArray} {most : Int} (h : numB s most = true) : canS s = true ∧ (valS s : Int) ≤ most := by
 unfold numB at h
 simpa using h
theorem ziU (s : ByteArray) (most : Int) (hs : s.size ≤ 140737488351232) : Fn prog 125 [qc s, qd most] (numR s most) [] := by
 have hC := small_s s most hs
 cases hB : numB s most with
 | true =>
  rw [zhw hB]
  rw [hB, show smV s = (valS s : Nat) by unfold smV; rw [if_pos (zeI hB).1]] at hC
  refine fnI fun w0 A => ?_
  refine G [9] ?_
  refine cV hC ?_
  refine G [12, 9, 0] ?_
  refine cX ?_ ?_ <;> intro h
  ·cases h
  exact jbh
 | false =>
  rw [zg6 hB]
  rw [hB] at hC
  refine fnI fun w0 A => ?_
  refine G [9] ?_
  refine cV hC ?_
  refine G [12, 9, 0] ?_
  exact jbR
theorem zg2 (s : ByteArray) (most : Int) (hs : s.size ≤ 140737488351232) : Fn prog 138 [qc s, qd most] (numR s most) [] := by
 by_cases hA : ∃ v, Lib.atoiAll s.data.toList = .ok v
 rotate_left
 ·obtain ⟨n, hC⟩ := atoi_bad s hs fun v h => hA ⟨v, h⟩
  have hB : numB s most = false := by
   cases h : numB s most with
   | false => rfl
   | true => exact absurd ⟨_, (zjf (zeI h).1).1⟩ hA
  rw [zg6 hB]
  refine fnI fun w0 A => ?_
  refine G [8] ?_
  refine cV hC ?_
  refine G [10] ?_
  refine jfb (a_ifneqI underlying200) ?_
  refine G [21, 9, 0] ?_
  exact jbR
 obtain ⟨v, hv⟩ := hA
 have hC := atoi_ok s v hs hv
 obtain ⟨v0, v1⟩ := Lib.atoiAll_bounds hv
 have hI := zfM v v0 v1
 have hk := @canS_num s v
 have hk2 := @zjf s
 obtain ⟨R, hR⟩ : ∃ R, numR s most = R := ⟨_, rfl⟩
 rw [hR]
 obtain ⟨w, hW⟩ : ∃ w, itoS v = w := ⟨_, rfl⟩
 rw [hW] at hI
 refine fnI fun w0 A => ?_
 refine G [8] ?_
 refine cV hC ?_
 refine G [10] ?_
 refine jfb (a_ifneqN underlying200) ?_
 refine G [8, 2, 4, 2, 2] ?_
 refine mb2 _ rfl rfl (fun _ => zbc func177 rfl rfl (hI) qw rfl) (fun _ => trivial) ?_
 refine G [2, 2, 1, 9, 0] ?_
 refine cX ?_ ?_ <;> intro h
 ·have hB : numB s most = false := by
   cases hb : numB s most with
   | false => rfl
   | true =>
    exfalso
    obtain ⟨h1, h2⟩ := zeI hb
    obtain ⟨h3, h4, h5⟩ := hk2 h1
    have h6 : v = (valS s : Nat) := by rw [hv] at h3; exact Lib.NumEnd.ok.inj h3
    have h7 : s.size ≤ 5 := (canS_size h1).2
    subst h6
    rw [hW] at h4
    subst h4
    simp at h
    omega
  rw [zg6 hB] at hR
  subst hR
  exact jaH
 ·simp at h
  obtain ⟨⟨⟨h1, h2⟩, h3⟩, h4⟩ := h
  have hk1 := hk qp h2 (by rw [hW]; exact h4) hv
  have hB : numB s most = true := by
   unfold numB
   rw [hk1.1, ← hk1.2]
   simpa using h3
  rw [zhw hB] at hR
  subst hR
  have hvv := hk1.2
  subst hvv
  exact jbh
end Go.Proofs.YtlfjpippeeikdaaGreatDoor
namespace Go.Proofs.YtlfjpippeeikdaaGreatDoor
open Go.RowKit Go.Sort
theorem or_add (a b i : Nat) (hb : b < 2 ^ i) : (a * 2 ^ i) ||| b = a * 2 ^ i + b := by
 have := Nat.two_pow_add_eq_or_of_lt (i := i) (b := b) hb a
 rw [qcK] at this
 exact this.symm
theorem u32_or (a b i : Nat) (hb : b < 2 ^ i) (h : a * 2 ^ i + b < 4294967296) : bits .or .u32 ((a * 2 ^ i : Nat) : Int) (b : Int) = ((a * 2 ^ i + b : Nat) : Int) := by
 have h1 : (BitVec.ofInt 32 ((a * 2 ^ i : Nat) : Int)).toNat = a * 2 ^ i := by
  rw [BitVec.ofInt_natCast, BitVec.toNat_ofNat]; exact Nat.mod_eq_of_lt qp
 have h2 : (BitVec.ofInt 32 (b : Int)).toNat = b := by
  rw [BitVec.ofInt_natCast, BitVec.toNat_ofNat]; exact Nat.mod_eq_of_lt qp
 show IntKind.u32.wrap ((BitVec.ofInt 32 ((a * 2 ^ i : Nat) : Int) ||| BitVec.ofInt 32 (b : Int)).toNat : Int) = _
 rw [BitVec.toNat_or, h1, h2, or_add a b i hb, qcU _ (by omega)]
end Go.Proofs.YtlfjpippeeikdaaGreatDoor
namespace Go.Proofs.YtlfjpippeeikdaaGreatDoor
open Tryz
open Go.RowKit Go.Sort
def ixB (s : ByteArray) (c : UInt8) : Int := Lib.indexByte s.data.toList c
theorem zgK (c : UInt8) : ∀ l : List UInt8, -1 ≤ Lib.indexByte l c
 | [] => by simp [Lib.indexByte]
 | b :: l => by
  have := zgK c l
  simp only [Lib.indexByte]
  split
  ·omega
  ·split
   ·omega
   ·omega
theorem ixB_ge (s : ByteArray) (c : UInt8) : -1 ≤ ixB s c := zgK c _
theorem zgJ (c : UInt8) : ∀ l : List UInt8, Lib.indexByte l c < l.length
 | [] => by simp [Lib.indexByte]
 | b :: l => by
  have := zgJ c l
  simp only [Lib.indexByte, qbs]
  split
  ·omega
  ·split
   ·omega
   ·omega
theorem sliteIB_s (s : ByteArray) (c : UInt8) : Fn prog 179 [qc s, .p (.v (.int .u8 (c.toNat : Nat)))] (qd (ixB s c)) [] := by
 have h := zfR (P := prog) (f := 179) [.string s, .int .u8 (c.toNat : Nat)] (r := .int .i64 (ixB s c)) rfl fun w => by
  have := stringslite_IndexByte s (c.toNat : Nat) w
  rw [show ((c.toNat : Nat) : Int).toNat.toUInt8 = c by simp] at this
  exact this
 exact h
theorem zfx (s : ByteArray) (c : UInt8) : Fn prog 175 [qc s, qc ⟨#[c]⟩] (qd (ixB s c)) [] := by
 have hz : (⟨#[c]⟩ : ByteArray).size = 1 := rfl
 have hI := sliteIB_s s c
 refine zcr func175 rfl (qbe rfl) fun w0 A => ?_
 refine zal (tx (aP rfl rfl ?_))
 refine zaf (zal (tx (jdJ ?_)))
 refine jfb (zdz U9) ?_
 refine aP rfl rfl ?_
 refine zaf (zal (zaw (zal (tx (jdJ ?_)))))
 refine jfb zbH ?_
 refine jdJ ?_
 refine mb2 _ rfl rfl (fun hb => (zaF (r := .p _))) (fun _ => trivial) ?_
 refine mb2 _ rfl rfl (fun hb => (zaF (r := .p _))) (fun _ => trivial) ?_
 refine mb2 _ rfl rfl (fun hb => a_seql) (fun _ => trivial) ?_
 refine zaa (a_or (by first | exact id | (simp; done) | grind)) rfl rfl ?_
 refine aP rfl rfl ?_
 refine je1 ?_
 refine zb7 _ rfl (fun h => ?_) (fun h => ?_)
 ·have hs : s = ⟨#[c]⟩ := by
   rw [hz] at h
   simp at h
   exact h.symm
  have h0 : ixB s c = 0 := by rw [hs]; simp [ixB, Lib.indexByte]
  rw [h0]
  refine zal (tx (aP rfl rfl ?_))
  refine zaf (zaA (zcl (zbA ?_)))
  exact jcC
 clear h
 refine zal (tx (jdJ ?_))
 refine jfb zbH ?_
 refine aP rfl rfl ?_
 refine je1 ?_
 refine zb7 _ rfl (fun h => ?_) (fun h => ?_)
 ·refine zal (tx (jdJ ?_))
  refine jdJ ?_
  refine zaa (zb4 U9 qp (show _ = some ((c.toNat : Nat) : Int) from rfl)) rfl rfl ?_
  refine zbG (fun n => 30 + 1000 * n) (hI) rfl rfl func179 rfl rfl qK qK rfl rfl rfl qq rfl rfl rfl ?_
  refine aP rfl rfl ?_
  refine zaf (zaA (zcl (zbA ?_)))
  exact jcC
 ·rw [hz] at h; simp at h
theorem zi5 (s : ByteArray) (c : UInt8) : Fn prog 135 [qc s, qc ⟨#[c]⟩] (qd (ixB s c)) [] := by
 have hI := zfx s c
 refine fnI fun w0 A => ?_
 refine G [8] ?_
 refine cV hI ?_
 exact jbm
def cutA (s : ByteArray) (c : UInt8) : ByteArray := if 0 ≤ ixB s c then s.extract 0 (ixB s c).toNat else s
def cutZ (s : ByteArray) (c : UInt8) : ByteArray := if 0 ≤ ixB s c then s.extract ((ixB s c).toNat + 1) s.size else ⟨#[]⟩
theorem ixB_lt (s : ByteArray) (c : UInt8) : ixB s c < s.size := by
 have := zgJ c s.data.toList
 show Lib.indexByte s.data.toList c < ((s.data.size : Nat) : Int)
 rw [← qb2]
 exact this
theorem zdw (s : ByteArray) (i j : Nat) : (s.extract i j).size = min j s.size - i := by rw [ByteArray.size_extract]
theorem zdU (s : ByteArray) (c : UInt8) : (cutA s c).size ≤ s.size := by
 unfold cutA; split
 ·rw [zdw]; omega
 ·exact Nat.le_refl _
theorem zdo (s : ByteArray) (c : UInt8) : (cutZ s c).size ≤ s.size := by
 unfold cutZ; split
 ·rw [zdw]; omega
 ·exact qb6 _
theorem sliteCut1_s (s : ByteArray) (c : UInt8) (hs : s.size ≤ 9223372036854775807) : Fn prog 162 [qc s, qc ⟨#[c]⟩] (.tup [qc (cutA s c), qc (cutZ s c), qf (decide (0 ≤ ixB s c))]) [] := by
 have hI := zfx s c
 have h1 := ixB_ge s c
 have h2 := ixB_lt s c
 have hz : (⟨#[c]⟩ : ByteArray).size = 1 := rfl
 unfold cutA cutZ
 generalize ixB s c = k at *
 by_cases hk : 0 ≤ k
 ·rw [if_pos hk, if_pos hk, decide_eq_true hk]
  obtain ⟨n, rfl⟩ := qbw hk
  rw [qbx]
  refine fnI fun w0 A => ?_
  refine G [11] ?_
  refine cV hI ?_
  refine jdv ?_
  refine cX ?_ ?_ <;> intro h
  ·refine G [4] ?_
   refine zaa (zci (L := none) (H := (some (_, _))) U9 rfl ⟨qp, (show _ = n by omega)⟩ qp qp rfl) rfl rfl ?_
   refine G [4] ?_
   refine zaa (zgF (show _ = ((n + 1 : Nat) : Int) by rw [hz, IntKind.wrap_i64]; omega)) rfl rfl ?_
   refine zaa (zci (L := (some (_, _))) (H := none) U9 ⟨qp, (show _ = n + 1 by omega)⟩ rfl qp qp rfl) rfl rfl ?_
   refine jdD ?_
   exact yE
  ·exact absurd h (by simp [hk])
 ·rw [if_neg hk, if_neg hk, decide_eq_false hk]
  refine fnI fun w0 A => ?_
  refine G [11] ?_
  refine cV hI ?_
  refine jdv ?_
  refine cX ?_ ?_ <;> intro h
  ·simp at h; omega
  ·refine G [9, 9, 0] ?_
   exact yE
theorem cut1_s (s : ByteArray) (c : UInt8) (hs : s.size ≤ 9223372036854775807) : Fn prog 122 [qc s, qc ⟨#[c]⟩] (.tup [qc (cutA s c), qc (cutZ s c), qf (decide (0 ≤ ixB s c))]) [] := by
 have hI := sliteCut1_s s c hs
 refine fnI fun w0 A => ?_
 refine G [10] ?_
 refine cV hI ?_
 exact jbh
def cntB (s : ByteArray) (c : UInt8) : Nat := Lib.countB s ⟨#[c]⟩
def spl (s : ByteArray) (c : UInt8) : List ByteArray := Lib.splitB ⟨#[c]⟩ 0 (cntB s c) s
theorem zcJ (s : ByteArray) (c : UInt8) : (spl s c).length = cntB s c + 1 := Lib.splitB_all ⟨#[c]⟩ (Nat.le_refl 1) 0 _ s rfl
theorem zjd (s : ByteArray) (c : UInt8) : cntB s c ≤ s.size := Lib.countB_le ⟨#[c]⟩ (Nat.le_refl 1) s.size s (Nat.le_refl _)
theorem zhm (sep : ByteArray) : ∀ (k : Nat) (s : ByteArray), ∀ t ∈ Lib.splitB sep 0 k s, t.size ≤ s.size
 | 0, s, t, h => by
  simp only [Lib.splitB, qcu] at h
  rw [h]; exact Nat.le_refl _
 | k + 1, s, t, h => by
  unfold Lib.splitB at h
  split at h
  ·simp only [qcu] at h
   rw [h]; exact Nat.le_refl _
  ·rcases qbm.1 h with h | h
   ·rw [h, zdw]; omega
   ·have := zhm sep k _ t h
    rw [zdw] at this; omega
theorem zfw (s : ByteArray) (c : UInt8) : ∀ t ∈ spl s c, t.size ≤ s.size := zhm _ _ _
theorem kitCount (s : ByteArray) (c : UInt8) (w : World) : Calls prog 134 #[.string s, .string ⟨#[c]⟩] w fun e w' => e = .returned (.int .i64 (cntB s c : Nat)) ∧ w' = w := by
 refine (strings_Count_one s c w).mono fun e w' ⟨he, hw⟩ => ⟨?_, hw⟩
 rw [he]
 show _ = Ending.returned (Value.int .i64 ((Lib.count s.data.toList [c] : Nat) : Int))
 rw [Lib.count_one]
 rfl
theorem kitIndex (s : ByteArray) (c : UInt8) (w : World) : Calls prog 135 #[.string s, .string ⟨#[c]⟩] w fun e w' => e = .returned (.int .i64 (Lib.indexB s ⟨#[c]⟩)) ∧ w' = w := by
 refine (strings_Index_one s c w).mono fun e w' ⟨he, hw⟩ => ⟨?_, hw⟩
 rw [he]
 show _ = Ending.returned (Value.int .i64 (Lib.index s.data.toList [c]))
 rw [Lib.index_one]
theorem count1_s (s : ByteArray) (c : UInt8) : Fn prog 134 [qc s, qc ⟨#[c]⟩] (qd (cntB s c : Nat)) [] :=
 zfR [.string s, .string ⟨#[c]⟩] rfl fun w => kitCount s c w
theorem genSplit1_s (s : ByteArray) (c : UInt8) (hs : s.size < 4294967281) : Fn prog 161 [qc s, qc ⟨#[c]⟩, qd 0, qd (-1)] (.row 0) [(0, .row 9 1 (cntB s c + 1) (strs (spl s c)))] := by
 have hle := zjd s c
 refine fn_alloc (vs := [.string s, .string ⟨#[c]⟩, .int .i64 0, .int .i64 (-1)]) (us := (spl s c).map .string) rfl qa3 qB (fun _ _ => strs_rep _) fun w => ?_
 have h := Any.strings_genSplit_core lays221 qr s ⟨#[c]⟩ 0 (-1) (cntB s c + 1) w hs (Nat.le_refl 1) (qb6 _) (fun x cc _ => kitIndex x c _) (kitCount s c w) qE qE (by
  rw [if_pos (by decide)]
  show _ = min ((cntB s c : Int) + 1) _
  omega)
 rw [Nat.add_sub_cancel] at h
 change Calls prog 161 _ w (fun e w' => e = .returned (.slice (some ⟨w.heap.size, 0, none⟩) (spl s c).length (cntB s c + 1)) ∧ w' = w.alloc (.cells (Lib.cellsOf (spl s c) (cntB s c + 1)) 9)) at h
 rw [zcJ, ← zcJ s c, Lib.cellsOf_full, zcJ] at h
 exact h
theorem zg1 (s : ByteArray) (c : UInt8) (hs : s.size < 4294967281) : Fn prog 121 [qc s, qc ⟨#[c]⟩] (.row 0) [(0, .row 9 1 (cntB s c + 1) (strs (spl s c)))] := by
 have hG := genSplit1_s s c hs
 refine fnI fun w0 A => ?_
 refine G [8] ?_
 refine zbG (fun n => 7 + 1000 * n) (hG) rfl rfl func161 rfl rfl qJ qJ rfl rfl rfl qq rfl rfl rfl ?_
 exact jbr
def adN (ts : List ByteArray) : Nat := ts.foldl (fun a t => a * 256 + valS t) 0
theorem adN_push (ts : List ByteArray) (t : ByteArray) : adN (ts ++ [t]) = adN ts * 256 + valS t := by simp [adN]
def okP (t : ByteArray) : Bool := numB t 255
theorem okP_val {t : ByteArray} (h : okP t = true) : valS t < 256 := by
 have := (zeI h).2
 omega
theorem zjp {l : List ByteArray} {i : Nat} {p : ByteArray} (hi : l[i]? = some p) : adN (l.take (i + 1)) = adN (l.take i) * 256 + valS p := by
 obtain ⟨h1, h2⟩ := qbl.1 hi
 rw [qbn h1, h2, adN_push]
theorem adN_lt {l : List ByteArray} : ∀ {i : Nat}, (∀ q ∈ l.take i, okP q = true) → i ≤ l.length → adN (l.take i) < 256 ^ i
 | 0, _, _ => by simp [adN]
 | i + 1, h, hl => by
  have hp : l[i]? = some (l[i]'qp) := List.getElem?_eq_getElem _
  rw [zjp hp]
  have e := qbn (show i < l.length by omega)
  have h1 := adN_lt (l := l) (i := i) (fun q hq => h q (by rw [e]; exact List.mem_append_left _ hq)) qp
  have h2 := okP_val (h (l[i]'qp) (by rw [e]; exact List.mem_append_right _ (qcu.2 rfl)))
  rw [qcC]
  omega
theorem takeP_ok {l : List ByteArray} {i : Nat} {p : ByteArray} (hi : l[i]? = some p) (hf : ∀ q ∈ l.take i, okP q = true) (hp : okP p = true) : ∀ q ∈ l.take (i + 1), okP q = true := by
 exact jbW
def adOk (s : ByteArray) : Bool := decide (cntB s 46 = 3) && (spl s 46).all okP
def adR (s : ByteArray) : AV := if adOk s = true then .tup [qe (adN (spl s 46) : Nat), qd 0] else .tup [qe 0, qd 3]
theorem adR_good {s : ByteArray} (h1 : cntB s 46 = 3) (h2 : ∀ q ∈ spl s 46, okP q = true) : adR s = .tup [qe (adN (spl s 46) : Nat), qd 0] := by
 unfold adR adOk
 rw [if_pos (by simp [h1]; simpa using h2)]
theorem adR_bad1 {s : ByteArray} (h1 : cntB s 46 ≠ 3) : adR s = .tup [qe 0, qd 3] := by
 unfold adR adOk
 rw [if_neg (by simp [h1])]
theorem adR_bad2 {s q : ByteArray} (h1 : q ∈ spl s 46) (h2 : okP q = false) : adR s = .tup [qe 0, qd 3] := by
 unfold adR adOk
 rw [if_neg (by simp only [qbv, qbU, not_and]; intro _ h; rw [h q h1] at h2; cases h2)]
theorem u32_shl8 {a : Int} (h0 : 0 ≤ a) (h1 : a < 16777216) : IntKind.u32.wrap (a * 2 ^ min (8 : Int).toNat IntKind.u32.bits) = a * 256 := by
 rw [show (2 : Int) ^ min (8 : Int).toNat IntKind.u32.bits = 256 from rfl, qcU _ (by omega)]
theorem u32_or8 {a b : Nat} (h1 : a < 16777216) (hb : b < 256) : bits .or .u32 ((a : Int) * 256) (b : Int) = (a : Int) * 256 + b := by
 have := u32_or a b 8 hb qp
 rw [show ((a * 2 ^ 8 : Nat) : Int) = (a : Int) * 256 by omega] at this
 rw [this]; omega
theorem parse_s (s : ByteArray) (hs : s.size < 4294967281) : Fn prog 148 [qc s] (adR s) [] := by
 have hSp := zg1 s 46 hs
 have hlen := zcJ s 46
 have hsz := zfw s 46
 have hg := @adR_good s
 have hb1 := @adR_bad1 s
 have hb2 := @adR_bad2 s
 generalize adR s = R at *
 generalize spl s 46 = ps at *
 generalize cntB s 46 = N at *
 refine fnI fun w0 A => ?_
 refine G [8] ?_
 refine zbG (fun n => 11 + 1000 * n) (hSp) rfl rfl func121 rfl rfl qJ qJ rfl rfl rfl qq rfl rfl rfl ?_
 refine G [9, 9, 0] ?_
 refine cX ?_ ?_ <;> intro h
 ·rw [hb1 (by simp at h; omega)]
  exact jaH
 have h3 : N = 3 := qu
 clear h
 subst h3
 refine G [13] ?_
 refine zac (fun m st => ∃ i : Nat, m + i = 4 ∧ (∀ q ∈ ps.take i, okP q = true) ∧ st = St.of [(5, qe (adN (ps.take i) : Nat)), (15, .row 11), (16, qd 4), (17, qd i)] [(11, .row 9 1 4 (strs ps))]) 4 ?_ ?_
 ·exact jcu
 rintro m st ⟨i, hi, hf, rfl⟩
 refine G [5] ?_
 refine cX ?_ ?_ <;> intro h
 ·have hlt : i < 4 := qu
  clear h
  obtain ⟨p, hp⟩ : ∃ p, ps[i]? = some p := ⟨ps[i], List.getElem?_eq_getElem qp⟩
  have hat := zg0 hp
  have hpm := qbh hp
  have hC := small_s p 255 (by have := hsz p hpm; omega)
  have hok := takeP_ok hp hf
  have hnx := zjp hp
  have hlt2 := adN_lt hf qp
  have hlt3 : adN (ps.take i) < 16777216 := by
   have h1 : 256 ^ i ≤ 256 ^ 3 := qcf qE qp
   omega
  clear hlt2
  have hsl : (strs ps).length = 4 := qbc
  have hbad := hb2 hpm
  have hval := @okP_val p
  have hsm : okP p = true → smV p = (valS p : Nat) := fun h => by unfold smV; rw [if_pos (zeI h).1]
  change Fn prog _ _ (.tup [qd (smV p), qf (okP p)]) _ at hC
  generalize strs ps = SP at *
  generalize adN (ps.take i) = a at *
  cases hq : okP p with
  | false =>
   rw [hbad hq]
   rw [hq] at hC
   refine je6 ?_
   refine G [12, 9, 0] ?_
   exact jbR
  | true =>
   have hv := hval hq
   rw [hq, hsm hq] at hC
   generalize valS p = v at *
   have s8 := u32_shl8 (a := (a : Int)) qp qp
   have o8 := u32_or8 hlt3 hv
   refine je6 ?_
   refine G [12, 9, 0] ?_
   refine cX ?_ ?_ <;> intro h
   ·cases h
   refine G [3] ?_
   refine zaa (a_shl qp s8) rfl rfl ?_
   refine G [2] ?_
   refine zaa (zf4 qC o8) rfl rfl ?_
   refine jdI ?_
   refine ⟨m - 1, qp, _, zae id _ _ ?_ ?_ rfl, i + 1, qp, hok hq, rfl⟩
   ·refine ⟨⟨?_, rfl⟩, ⟨rfl, rfl⟩, ⟨rfl, rfl⟩, ⟨rfl, rfl⟩, trivial⟩
    exact jcA
   ·exact ja3
 have hge : i = 4 := qu
 clear h
 subst hge
 rw [qbr (by omega)] at hf ⊢
 rw [hg rfl hf]
 exact jbh
theorem refAddr_s (s : ByteArray) (hs : s.size < 4294967281) : Fn prog 157 [qc s] (adR s) [] := by
 have hSp := zg1 s 46 hs
 have hlen := zcJ s 46
 have hsz := zfw s 46
 have hcl := zjd s 46
 have hg := @adR_good s
 have hb1 := @adR_bad1 s
 have hb2 := @adR_bad2 s
 generalize adR s = R at *
 generalize spl s 46 = ps at *
 generalize cntB s 46 = N at *
 refine fnI fun w0 A => ?_
 refine G [12] ?_
 refine zbG (fun n => 11 + 1000 * n) (hSp) rfl rfl func121 rfl rfl qJ qJ rfl rfl rfl qq rfl rfl rfl ?_
 refine G [10] ?_
 refine zac (fun m st => ∃ i : Nat, m + i = N + 1 ∧ (i ≠ 0 → N = 3) ∧ (∀ q ∈ ps.take i, okP q = true) ∧ st = St.of [(4, qe (adN (ps.take i) : Nat)), (5, .row 11), (12, .row 11), (13, qd (N + 1 : Nat)), (14, qd i)] [(11, .row 9 1 (N + 1) (strs ps))]) (N + 1) ?_ ?_
 ·refine ⟨_, zae id _ _ ?_ ?_ rfl, 0, qp, qC, qC, rfl⟩
  ·exact jap
  ·exact ja3
 rintro m st ⟨i, hi, h30, hf, rfl⟩
 refine G [5] ?_
 refine cX ?_ ?_ <;> intro h
 ·have hlt : i < N + 1 := qu
  clear h
  obtain ⟨p, hp⟩ : ∃ p, ps[i]? = some p := ⟨ps[i], List.getElem?_eq_getElem qp⟩
  have hat := zg0 hp
  have hpm := qbh hp
  have hC := zg2 p 255 (by have := hsz p hpm; omega)
  have hok := takeP_ok hp hf
  have hnx := zjp hp
  have hlt2 := adN_lt hf qp
  have hsl : (strs ps).length = N + 1 := qbc
  have hbad := hb2 hpm
  have hval := @okP_val p
  have hng : okP p = true → numR p 255 = .tup [qd (valS p : Nat), qd 0] := fun h => zhw h
  have hnb : okP p = false → numR p 255 = .tup [qd 0, qd 3] := fun h => zg6 h
  generalize strs ps = SP at *
  generalize adN (ps.take i) = a at *
  cases hq : okP p with
  | false =>
   rw [hbad hq]
   rw [hnb hq] at hC
   refine je6 ?_
   refine G [17, 9, 0] ?_
   exact jbR
  | true =>
   have hv := hval hq
   rw [hng hq] at hC
   generalize valS p = v at *
   refine je6 ?_
   refine G [10, 1, 6, 9, 0] ?_
   refine cX ?_ ?_ <;> intro h
   ·rw [hb1 (by simp at h; omega)]
    exact jaH
   have h3 : N = 3 := qu
   clear h
   subst h3
   have hlt3 : a < 16777216 := by
    have h1 : 256 ^ i ≤ 256 ^ 3 := qcf qE qp
    omega
   clear hlt2
   refine G [13, 9, 0] ?_
   refine ⟨m - 1, qp, _, zae id _ _ ?_ ?_ rfl, i + 1, qp, fun _ => rfl, hok hq, rfl⟩
   ·refine ⟨⟨?_, rfl⟩, ⟨rfl, rfl⟩, ⟨rfl, rfl⟩, ⟨rfl, rfl⟩, ⟨rfl, rfl⟩, trivial⟩
    exact jcA
   ·exact ja3
 have hge : i = N + 1 := qu
 clear h
 subst hge
 have h3 := h30 qp
 rw [← hlen, qbI] at hf ⊢
 rw [hg h3 hf]
 exact jbh
def zi4 (ts : List ByteArray) (sep : ByteArray) : ByteArray := ⟨(Lib.join (ts.map (·.data.toList)) sep.data.toList).toArray⟩
theorem join_s (ts : List ByteArray) (sep : ByteArray) (hn : ts.length ≤ 140737488355328) (hl : (zi4 ts sep).size ≤ 140737488355328) : Fn prog 219 [ql ts.length 1 (strs ts), qc sep] (qc (zi4 ts sep)) [] := by
 refine zi8 rfl fun w A us hA hr => ?_
 have hlen := hr.length
 match us, hlen with
 | [u, v], _ =>
  obtain ⟨h1, h2⟩ := zcj hr
  have hv := za8 h2
  subst hv
  simp only [Rep, PRep] at h1
  obtain ⟨a, cap, vs, rfl, hc, _, hp, hb⟩ := h1
  have hvs := prep_strs hp
  subst hvs
  rcases hb with h0 | ⟨b, off, rfl, hAb, hrange⟩
  ·obtain rfl : ts = [] := qbt h0
   refine (strings_Join_none a cap sep w).mono ?_
   rintro e w' ⟨rfl, rfl⟩
   exact ⟨rfl, Below.refl _ _⟩
  ·refine (strings_Join b off cap ts sep w (fun j x hj => ?_) (hA b hAb) hn hc (by simpa [zi4, ByteArray.size] using hl)).mono ?_
   ·exact hrange j (.string x) (by simp [hj])
   ·rintro e w' ⟨rfl, hbel⟩
    exact ⟨rfl, hbel⟩
theorem joinS_one (t sep : ByteArray) : zi4 [t] sep = t := by
 apply ByteArray.ext
 simp [zi4, Lib.join_cons, Lib.joinTail]
theorem zgp (ts : List ByteArray) (sep t : ByteArray) (h : ts ≠ []) : zi4 (ts ++ [t]) sep = zi4 ts sep ++ sep ++ t := by
 match ts, h with
 | x :: r, _ =>
  apply ByteArray.ext
  apply Array.ext'
  simp [zi4, Lib.join_cons, Lib.joinTail, ByteArray.data_append]
end Go.Proofs.YtlfjpippeeikdaaGreatDoor
