/- Plain facts on windows of 64 bits: what Take makes of the bits, by shifts and by a sum. No program is named. -/
import Derived.WalkKit
namespace Go.Proofs.Ytckkmfoccefcfaa

/-- the sum of 2^i over the i below n that c tells -/
def bsum (c : Nat → Bool) : Nat → Nat
  | 0 => 0
  | n + 1 => bsum c n + (if c n then 2 ^ n else 0)

theorem bsum_lt (c : Nat → Bool) (n : Nat) : bsum c n < 2 ^ n := by
  induction n with
  | zero => simp [bsum]
  | succ n ih => simp only [bsum, Nat.pow_succ]; split <;> omega

theorem bsum_bit (c : Nat → Bool) (n i : Nat) : (bsum c n).testBit i = (decide (i < n) && c i) := by
  induction n with
  | zero => simp [bsum]
  | succ n ih =>
    simp only [bsum]
    have hl := bsum_lt c n
    by_cases hc : c n = true
    · rw [if_pos hc, Nat.add_comm]
      by_cases hi : i = n
      · subst hi
        rw [Nat.testBit_two_pow_add_eq, Nat.testBit_lt_two_pow hl]
        simp [hc]
      · by_cases hlt : i < n
        · rw [Nat.testBit_two_pow_add_gt hlt, ih]
          have : i < n + 1 := by omega
          simp [hlt, this]
        · have hgt : n + 1 ≤ i := by omega
          have h2 : 2 ^ n + bsum c n < 2 ^ (n + 1) := by rw [Nat.pow_succ]; omega
          rw [Nat.testBit_lt_two_pow (Nat.lt_of_lt_of_le h2 (Nat.pow_le_pow_right (by decide) hgt))]
          have : ¬ i < n + 1 := by omega
          simp [this]
    · rw [if_neg hc, Nat.add_zero, ih]
      by_cases hi : i = n
      · subst hi; simp [hc]
      · by_cases hlt : i < n
        · have : i < n + 1 := by omega
          simp [hlt, this]
        · have : ¬ i < n + 1 := by omega
          simp [hlt, this]

theorem bsum_congr (c c' : Nat → Bool) (n : Nat) (h : ∀ i, i < n → c i = c' i) : bsum c n = bsum c' n := by
  induction n with
  | zero => rfl
  | succ n ih => simp only [bsum]; rw [ih (fun i hi => h i (by omega)), h n (by omega)]

/-- one bit more -/
theorem or_bit (b j : Nat) (hb : b < 2 ^ 64) (hj : j < 64) : b ||| 2 ^ j = bsum (fun i => decide (i = j) || b.testBit i) 64 := by
  apply Nat.eq_of_testBit_eq
  intro i
  rw [bsum_bit, Nat.testBit_or, Nat.testBit_two_pow]
  by_cases hi : i < 64
  · simp [hi, Bool.or_comm, eq_comm]
  · have hb' : b.testBit i = false := Nat.testBit_lt_two_pow (Nat.lt_of_lt_of_le hb (Nat.pow_le_pow_right (by decide) (by omega)))
    have : ¬ j = i := by omega
    simp [hi, hb', this]

/-- shifted up by d, and the lowest bit -/
theorem shl_bit (b d : Nat) : (b * 2 ^ d % 2 ^ 64) ||| 1 = bsum (fun i => decide (i = 0) || (decide (d ≤ i) && b.testBit (i - d))) 64 := by
  apply Nat.eq_of_testBit_eq
  intro i
  rw [bsum_bit, Nat.testBit_or, Nat.testBit_mod_two_pow, Nat.mul_comm, Nat.testBit_two_pow_mul]
  have h1 : (1 : Nat).testBit i = decide (i = 0) := by
    have := Nat.testBit_two_pow (n := 0) (m := i)
    simpa [eq_comm] using this
  rw [h1]
  by_cases hi : i < 64
  · simp [hi, Bool.or_comm]
  · have : ¬ i = 0 := by omega
    simp [hi, this]
end Go.Proofs.Ytckkmfoccefcfaa
