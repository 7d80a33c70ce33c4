/- Plain facts on the longest net that holds two addresses. No program is named. -/
import Derived.Test.YtckkmfoccefcfaaNetD
import Derived.Lib.BitFns
namespace Go.Proofs.Ytckkmfoccefcfaa
open Go.RowKit Go.Sort

theorem bitLenAux_le (f : Nat) : ∀ (x j : Nat), x < 2 ^ f → (Lib.bitLenAux f x ≤ j ↔ x < 2 ^ j) := by
  induction f with
  | zero => intro x j hx; have : x = 0 := by simpa using hx
            subst this; simp [Lib.bitLenAux, Nat.two_pow_pos]
  | succ f ih =>
    intro x j hx
    by_cases h0 : x = 0
    · subst h0; simp [Lib.bitLenAux, Nat.two_pow_pos]
    · simp only [Lib.bitLenAux, h0, if_false]
      cases j with
      | zero => simp; omega
      | succ j =>
        have h := ih (x / 2) j (by rw [Nat.pow_succ] at hx; omega)
        rw [Nat.pow_succ]
        constructor
        · intro h1; have := h.1 (by omega); omega
        · intro h1; have := h.2 (by omega); omega

theorem bitLen_le (x j : Nat) (hx : x < 2 ^ 64) : Lib.bitLen x ≤ j ↔ x < 2 ^ j := bitLenAux_le 64 x j hx

/-- the leading bits that two addresses have in common -/
def lcp (a b : Int) : Int := 32 - (Lib.bitLen (a.toNat ^^^ b.toNat) : Int)

theorem lcp_bd (a b : Int) (h2 : 0 ≤ a) (h3 : a < 4294967296) (h4 : 0 ≤ b) (h5 : b < 4294967296) : 0 ≤ lcp a b ∧ lcp a b ≤ 32 := by
  unfold lcp
  have hx : a.toNat ^^^ b.toNat < 2 ^ 32 := Nat.xor_lt_two_pow (by omega) (by omega)
  have := (bitLen_le (a.toNat ^^^ b.toNat) 32 (by omega)).2 hx
  omega

theorem topI_eq_iff (a b k : Int) (h2 : 0 ≤ a) (h3 : a < 4294967296) (h4 : 0 ≤ b) (h5 : b < 4294967296) (hk0 : 0 ≤ k) (hk1 : k ≤ 32) : topI b k = topI a k ↔ k ≤ lcp a b := by
  obtain ⟨x, rfl⟩ := Int.eq_ofNat_of_zero_le h2
  obtain ⟨y, rfl⟩ := Int.eq_ofNat_of_zero_le h4
  unfold lcp topI
  obtain ⟨j, hj⟩ : ∃ j : Nat, (32 - k).toNat = j := ⟨_, rfl⟩
  rw [hj]
  have hx : x ^^^ y < 2 ^ 32 := Nat.xor_lt_two_pow (by omega) (by omega)
  have h := bitLen_le (x ^^^ y) j (by omega)
  have e1 : k ≤ 32 - (Lib.bitLen ((x : Int).toNat ^^^ (y : Int).toNat) : Int) ↔ x ^^^ y < 2 ^ j := by
    rw [← h]; simp only [Int.toNat_natCast]; omega
  rw [e1, pow_cast]
  have key : (x ^^^ y < 2 ^ j) ↔ y / 2 ^ j = x / 2 ^ j := by
    rw [← Nat.div_eq_zero_iff_lt (Nat.two_pow_pos j), ← Nat.shiftRight_eq_div_pow, ← Nat.shiftRight_eq_div_pow, ← Nat.shiftRight_eq_div_pow, Nat.shiftRight_xor_distrib]
    constructor
    · intro h
      have := congrArg (fun z => z ^^^ (y >>> j)) h
      simp [Nat.xor_assoc] at this
      exact this.symm
    · intro h; rw [h, Nat.xor_self]
  rw [key]
  have d1 := Nat.div_add_mod x (2 ^ j)
  have d2 := Nat.div_add_mod y (2 ^ j)
  have m1 : ((x : Int) % ((2 ^ j : Nat) : Int)) = ((x % 2 ^ j : Nat) : Int) := by simp
  have m2 : ((y : Int) % ((2 ^ j : Nat) : Int)) = ((y % 2 ^ j : Nat) : Int) := by simp
  rw [m1, m2]
  have l1 := Nat.mod_lt x (Nat.two_pow_pos j)
  have l2 := Nat.mod_lt y (Nat.two_pow_pos j)
  constructor
  · intro h
    have h' : 2 ^ j * (y / 2 ^ j) = 2 ^ j * (x / 2 ^ j) := by omega
    exact Nat.eq_of_mul_eq_mul_left (Nat.two_pow_pos j) h'
  · intro h
    rw [h] at d2
    omega

/-- Join: what is answered, and how many bits the net has -/
def joinE (a n b m : Int) : Int := if netFault a n = 0 then netFault b m else netFault a n
def joinN (a n b m : Int) : Int := if joinE a n b m = 0 then min (min n m) (lcp a b) else 0
def joinA (a n b m : Int) : Int := if joinE a n b m = 0 then topI a (min (min n m) (lcp a b)) else 0
end Go.Proofs.Ytckkmfoccefcfaa
