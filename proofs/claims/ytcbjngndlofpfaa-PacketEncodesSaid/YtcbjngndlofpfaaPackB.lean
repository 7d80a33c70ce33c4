/- The sum of package packet. -/
import Derived.Test.YtcbjngndlofpfaaPackA
namespace Go.Proofs.Ytcbjngndlofpfaa
open Go.RowKit Go.Sort
set_option linter.unusedVariables false

/-- fold what goes over 16 bits -/
def fold16 (n : Nat) : Nat := if n < 65536 then n else fold16 (n / 65536 + n % 65536)
termination_by n
decreasing_by omega
theorem fold16_lt (n : Nat) : fold16 n < 65536 := by
  induction n using Nat.strongRecOn with
  | ind n ih =>
    rw [fold16]
    split
    · assumption
    · exact ih _ (by omega)
theorem fold16_step {n : Nat} (h : 65536 ≤ n) : fold16 (n / 65536 + n % 65536) = fold16 n := by
  conv => rhs; rw [fold16, if_neg (by omega)]
theorem fold16_end {n : Nat} (h : n < 65536) : fold16 n = n := by rw [fold16, if_pos h]

def bN (xs : List Int) (i : Nat) : Nat := (xs.getD i 0).toNat
def pairSum (xs : List Int) (k : Nat) : Nat := ((List.range k).map fun j => 256 * bN xs (2 * j) + bN xs (2 * j + 1)).sum
theorem pairSum_succ (xs : List Int) (k : Nat) : pairSum xs (k + 1) = pairSum xs k + (256 * bN xs (2 * k) + bN xs (2 * k + 1)) := by simp [pairSum, List.range_succ]
theorem isB_at {xs : List Int} (h : isB xs) (i : Nat) : 0 ≤ xs.getD i 0 ∧ xs.getD i 0 < 256 := by
  rw [List.getD_eq_getElem?_getD]
  rcases Nat.lt_or_ge i xs.length with hi | hi
  · rw [List.getElem?_eq_getElem hi]; exact h _ (List.getElem_mem hi)
  · rw [List.getElem?_eq_none hi]; simp
theorem bN_lt {xs : List Int} (h : isB xs) (i : Nat) : bN xs i < 256 := by have := isB_at h i; unfold bN; omega
theorem bN_int {xs : List Int} (h : isB xs) (i : Nat) : xs.getD i 0 = ((bN xs i : Nat) : Int) := by have := isB_at h i; unfold bN; omega
theorem pairSum_le {xs : List Int} (h : isB xs) (k : Nat) : pairSum xs k ≤ 65535 * k := by
  induction k with
  | zero => simp [pairSum]
  | succ k ih => rw [pairSum_succ]; have := bN_lt h (2 * k); have := bN_lt h (2 * k + 1); omega

theorem i64_or_byte (a b : Nat) (ha : a < 256) (hb : b < 256) : bits .or .i64 ((a : Int) * 256) (b : Int) = (a : Int) * 256 + b := by
  have e : ((a : Int) * 256) = ((256 * a : Nat) : Int) := by simp; omega
  have h1 : (BitVec.ofInt 64 ((256 * a : Nat) : Int)).toNat = 256 * a := by
    rw [BitVec.ofInt_natCast, BitVec.toNat_ofNat]; exact Nat.mod_eq_of_lt (by omega)
  have h2 : (BitVec.ofInt 64 (b : Int)).toNat = b := by
    rw [BitVec.ofInt_natCast, BitVec.toNat_ofNat]; exact Nat.mod_eq_of_lt (by omega)
  show IntKind.i64.wrap ((BitVec.ofInt 64 ((a : Int) * 256) ||| BitVec.ofInt 64 (b : Int)).toNat : Int) = _
  rw [e, BitVec.toNat_or, h1, h2]
  have h3 : 256 * a ||| b = 256 * a + b := by
    have := Nat.two_pow_add_eq_or_of_lt (i := 8) (b := b) (by omega) a
    rw [show 2 ^ 8 = 256 from rfl] at this
    omega
  rw [h3, IntKind.wrap_i64]
  omega

theorem i64_and_mask (n k : Nat) (hn : n < 9223372036854775808) (hk : k ≤ 62) : bits .and .i64 (n : Int) ((2 ^ k - 1 : Nat) : Int) = ((n % 2 ^ k : Nat) : Int) := by
  have hp : 2 ^ k ≤ 2 ^ 62 := Nat.pow_le_pow_right (by decide) hk
  have hp' : n % 2 ^ k ≤ n := Nat.mod_le _ _
  have h1 : (BitVec.ofInt 64 (n : Int)).toNat = n := by
    rw [BitVec.ofInt_natCast, BitVec.toNat_ofNat]; exact Nat.mod_eq_of_lt (by omega)
  have h2 : (BitVec.ofInt 64 ((2 ^ k - 1 : Nat) : Int)).toNat = 2 ^ k - 1 := by
    rw [BitVec.ofInt_natCast, BitVec.toNat_ofNat]; exact Nat.mod_eq_of_lt (by omega)
  show IntKind.i64.wrap ((BitVec.ofInt 64 (n : Int) &&& BitVec.ofInt 64 ((2 ^ k - 1 : Nat) : Int)).toNat : Int) = _
  rw [BitVec.toNat_and, h1, h2, Nat.and_two_pow_sub_one_eq_mod, IntKind.wrap_i64]
  omega
theorem i64_and_65535 (n : Nat) (hn : n < 9223372036854775808) : bits .and .i64 (n : Int) 65535 = ((n % 65536 : Nat) : Int) := i64_and_mask n 16 hn (by omega)

theorem u16_not (n : Nat) (hn : n < 65536) : bits .xor .u16 IntKind.u16.max (n : Int) = 65535 - (n : Int) := by
  have h1 : (BitVec.ofInt 16 (n : Int)).toNat = n := by
    rw [BitVec.ofInt_natCast, BitVec.toNat_ofNat]; exact Nat.mod_eq_of_lt (by omega)
  have e : BitVec.ofInt 16 IntKind.u16.max = BitVec.allOnes 16 := by decide
  show IntKind.u16.wrap ((BitVec.ofInt 16 IntKind.u16.max ^^^ BitVec.ofInt 16 (n : Int)).toNat : Int) = _
  rw [e, BitVec.allOnes_xor, BitVec.toNat_not, h1, IntWalk.u16_in _ (by omega)]
  omega

def sumOf (xs : List Int) : Nat := fold16 (pairSum xs (xs.length / 2))

set_option maxHeartbeats 2000000 in
theorem psum_c (p : Option Addr) (n c : Nat) (xs : List Int) (w : World) (h : Byt w p n xs) (hb : isB xs) (hn : n ≤ 1000) (hc : n ≤ c) :
    Calls Try.prog 57 #[.slice p n c] w fun e w' => e = .returned (.int .u16 (65535 - (sumOf xs : Int))) ∧ Below w.heap.size w w' := by
  have HL := Lib.hid h.len
  have HB := Lib.hid hb
  have HX := Lib.hid h
  have hd0 : (n : Int) ≤ 1000 := by omega
  go_enter Try.func57, Try.ntmps57
  go_wp2_with fail
  go_loopw [3, 4] (fun v i wr => ∃ (k i' : Nat), Hid (i' = 2 * k) ∧ i' ≤ n ∧ i = .int .i64 i' ∧ v = .int .i64 (pairSum xs k : Nat) ∧ Below w.heap.size w wr) (fun _ i _ => n - (intOf i).toNat)
  case atStart => exact ⟨0, 0, rfl, by omega, rfl, rfl, Below.refl _ _⟩
  case round =>
    obtain ⟨k, i, HI, hi, rfl, rfl, hbw⟩ := hrel
    have hk : k ≤ 500 := by have := HI.out; omega
    have hps : pairSum xs k ≤ 65535 * 500 := Nat.le_trans (pairSum_le HB.out k) (by omega)
    by_cases hlt : i + 1 < n
    · have b1 : (i : Int) + 1 < n := by omega
      have b0 : (i : Int) < n := by omega
      have e1 : IntKind.i64.wrap ((i : Int) + 1) = (i : Int) + 1 := IntWalk.i64_in _ (by omega)
      have e2 : ((i : Int) + 1).toNat = i + 1 := by omega
      have b2 : (0 : Int) ≤ (i : Int) + 1 := by omega
      obtain ⟨b, o, hp, hlt2, hcell⟩ := (HX.out.below hbw).cells (by omega)
      subst hp
      have c0 := hcell i (by omega)
      have c1 := hcell (i + 1) (by omega)
      have c2 : wr.cell? ⟨b, o + i + 1, none⟩ = wr.cell? ⟨b, o + (i + 1), none⟩ := by rw [Nat.add_assoc]
      rw [bN_int HB.out] at c0 c1
      have q0 := bN_lt HB.out i
      have q1 := bN_lt HB.out (i + 1)
      have HS := Lib.hid (pairSum_succ xs k)
      rw [← HI.out] at HS
      have hor := i64_or_byte _ _ q0 q1
      clear hcell
      generalize bN xs i = x at *
      generalize bN xs (i + 1) = y at *
      generalize pairSum xs k = S at *
      go_wp2_with fail
      go_quiet (fail)
      go_wp2_with fail
      go_roundw
      case rel =>
        refine ⟨k + 1, i + 2, (show i + 2 = 2 * (k + 1) by have := HI.out; omega), by omega, by go_num, ?_, by (repeat' (first | exact Below.refl _ _ | assumption | refine bstep ?_ (by assumption) | refine balloc ?_ _ | refine bdrew ?_ | refine bdrewN ?_ _ | refine bset ?_ ?_ _ | (show _ ≤ _; simp; omega) | (simp; done)))⟩
        rw [HS.out]; exact int_eq (by omega)
      case measure => simp [intOf]; omega
    · have hke : k = n / 2 := by have := HI.out; omega
      have HF := Lib.hid (show fold16 (pairSum xs k) = sumOf xs by unfold sumOf; rw [HL.out, hke])
      generalize pairSum xs k = S0 at *
      go_wp2_with fail
      go_loopw [3] (fun v wr => ∃ m : Nat, m ≤ 65535 * 500 ∧ v = .int .i64 m ∧ Hid (fold16 m = sumOf xs) ∧ Below w.heap.size w wr) (fun v _ => (intOf v).toNat)
      case atStart => exact ⟨S0, hps, rfl, HF, by (repeat' (first | exact Below.refl _ _ | assumption | refine bstep ?_ (by assumption) | refine balloc ?_ _ | refine bdrew ?_ | refine bdrewN ?_ _ | refine bset ?_ ?_ _ | (show _ ≤ _; simp; omega) | (simp; done)))⟩
      case round =>
        obtain ⟨m, hm, rfl, HM, hbw⟩ := hrel
        have hand := i64_and_65535 m (by omega)
        by_cases hgt : 65535 < m
        · have hst := Lib.hid (fold16_step (n := m) (by omega))
          go_wp2_with fail
          go_roundw
          case rel => exact ⟨m / 65536 + m % 65536, by omega, by go_num, (hst.out.trans HM.out), by (repeat' (first | exact Below.refl _ _ | assumption | refine bstep ?_ (by assumption) | refine balloc ?_ _ | refine bdrew ?_ | refine bdrewN ?_ _ | refine bset ?_ ?_ _ | (show _ ≤ _; simp; omega) | (simp; done)))⟩
          case measure => simp [intOf]; omega
        · have hst := Lib.hid (fold16_end (n := m) (by omega))
          go_wp2_with fail
          go_ret
          have hx := hst.out.symm.trans HM.out
          refine ⟨?_, by (repeat' (first | exact Below.refl _ _ | assumption | refine bstep ?_ (by assumption) | refine balloc ?_ _ | refine bdrew ?_ | refine bdrewN ?_ _ | refine bset ?_ ?_ _ | (show _ ≤ _; simp; omega) | (simp; done)))⟩
          show Ending.returned (.int .u16 (bits .xor .u16 IntKind.u16.max (m : Int))) = _
          rw [u16_not m (by omega), hx]
end Go.Proofs.Ytcbjngndlofpfaa
