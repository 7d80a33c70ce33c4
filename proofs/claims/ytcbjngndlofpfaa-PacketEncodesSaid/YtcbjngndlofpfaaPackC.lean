/- Numbers as bytes, the reference's; bytes.Clone. -/
import Derived.Test.YtcbjngndlofpfaaPackB
namespace Go.Proofs.Ytcbjngndlofpfaa
open Go.RowKit Go.Sort
set_option linter.unusedVariables false

/-- big, when k of its m places are written -/
def bigL (x m k : Nat) : List Int := (List.range m).map fun j => if m ≤ j + k then ((x / 256 ^ (m - 1 - j) % 256 : Nat) : Int) else 0
def bigI (x m : Nat) : List Int := (List.range m).map fun j => ((x / 256 ^ (m - 1 - j) % 256 : Nat) : Int)
theorem bigL_len (x m k : Nat) : (bigL x m k).length = m := by simp [bigL]
theorem bigI_len (x m : Nat) : (bigI x m).length = m := by simp [bigI]
theorem bigL_zero (x m : Nat) : bigL x m 0 = List.replicate m 0 := by
  apply List.ext_getElem
  · simp [bigL]
  · intro i h1 h2
    have : i < m := by simpa using h2
    simp [bigL]
    omega
theorem bigL_all (x m : Nat) : bigL x m m = bigI x m := by
  apply List.ext_getElem
  · simp [bigL, bigI]
  · intro i h1 h2
    simp [bigL, bigI]
theorem bigL_set (x m k : Nat) (hk : k < m) : (bigL x m k).set (m - 1 - k) ((x / 256 ^ k % 256 : Nat) : Int) = bigL x m (k + 1) := by
  apply List.ext_getElem
  · simp [bigL]
  · intro i h1 h2
    have hi : i < m := by simpa [bigL] using h2
    rw [List.getElem_set]
    by_cases e : m - 1 - k = i
    · rw [if_pos e]
      have e2 : m - 1 - i = k := by omega
      simp only [bigL, List.getElem_map, List.getElem_range]
      rw [if_pos (by omega), e2]
    · rw [if_neg e]
      simp only [bigL, List.getElem_map, List.getElem_range]
      by_cases h3 : m ≤ i + k
      · rw [if_pos h3, if_pos (by omega)]
      · rw [if_neg h3, if_neg (by omega)]
theorem bigI_B (x m : Nat) : isB (bigI x m) := by
  intro y hy
  simp [bigI] at hy
  omega
theorem i64_and_255 (n : Nat) (hn : n < 9223372036854775808) : bits .and .i64 (n : Int) 255 = ((n % 256 : Nat) : Int) := i64_and_mask n 8 hn (by omega)

set_option maxHeartbeats 2000000 in
theorem big_c (x m : Nat) (hx : x < 9223372036854775808) (hm : m ≤ 1000) (w : World) : Calls Try.prog 59 #[.int .i64 (x : Int), .int .i64 (m : Int)] w (RetS w (bigI x m)) := by
  have hmk := fun W => run_makeN (m : Int) m rfl (by omega) W
  go_enter Try.func59, Try.ntmps59
  go_wp2_with fail
  have ho := own_makeN w m (by omega)
  clear hmk
  go_loopw [0, 6] (fun v i wr => ∃ (k : Nat), k ≤ m ∧ i = .int .i64 ((m : Int) - 1 - k) ∧ v = .int .i64 ((x / 256 ^ k : Nat) : Int) ∧ Own wr w.heap.size (some ⟨w.heap.size, 0, none⟩) m m (bigL x m k) ∧ Below w.heap.size w wr) (fun _ i _ => (intOf i + 1).toNat)
  case atStart => exact ⟨0, by omega, by simp, by simp, ho.cast (bigL_zero x m).symm, (Below.refl _ _).alloc (Nat.le_refl _) _⟩
  case round =>
    obtain ⟨k, hk, rfl, rfl, ho, hbw⟩ := hrel
    have HY := Lib.hid (show x / 256 ^ k / 256 = x / 256 ^ (k + 1) by rw [Nat.div_div_eq_div_mul, Nat.pow_succ])
    have HS := Lib.hid (bigL_set x m k)
    generalize hy : x / 256 ^ k = y at *
    have hyb : y < 9223372036854775808 := by rw [← hy]; exact Nat.lt_of_le_of_lt (Nat.div_le_self _ _) hx
    clear hy
    by_cases hlt : k < m
    · have hand := i64_and_255 y hyb
      have b0 : (0 : Int) ≤ (m : Int) - 1 - k := by omega
      have b1 : (m : Int) - 1 - k < m := by omega
      have e2 : ((m : Int) - 1 - k).toNat = m - 1 - k := by omega
      have hcg := ho.cell (m - 1 - k) (by omega)
      have hfg := ho.free (m - 1 - k)
      go_wp2_with fail
      go_roundw
      case rel => exact ⟨k + 1, by omega, by go_num, int_eq (by have := HY.out; omega), (ho.set_ _ _).cast (HS.out hlt), hbw.setCell (Nat.le_refl _) _⟩
      case measure => simp [intOf]; omega
    · obtain rfl : k = m := by omega
      go_wp2_with fail
      go_ret
      exact ⟨_, _, _, rfl, (ho.cast (bigL_all x k)).byt, Nat.le_refl _, hbw⟩

/-- what a function leaves that answers a row of its own -/
def RetO (w : World) (xs : List Int) (e : Ending) (w' : World) : Prop :=
  ∃ p n c, e = .returned (.slice p n c) ∧ Own w' w.heap.size p n c xs ∧ Below w.heap.size w w'

theorem Own.of_row {w : World} {B n : Nat} {v : Value} {xs : List Int} (h : w.ownsRow B 5 1 v n (bv xs)) (hx : xs.length = n) (hB : B ≤ w.heap.size) : ∃ p c, v = .slice p n c ∧ Own w B p n c xs := by
  rcases h.2 with ⟨e, e2⟩ | ⟨g, cap, cur, e, hg', hh, hle, r⟩
  · subst e2
    subst e
    exact ⟨none, 0, rfl, hx, Nat.le_refl _, h, hB⟩
  · subst e
    exact ⟨_, cap, rfl, hx, hle, h, hB⟩

theorem clone_o (b o n c : Nat) (xs : List Int) (w : World) (h : Byt w (some ⟨b, o, none⟩) n xs) (hn : n ≤ 1000) :
    Calls Try.prog 58 #[.slice (some ⟨b, o, none⟩) n c] w (RetO w xs) := by
  refine (Try.bytes_Clone_at ⟨b, o, none⟩ n c xs w h.len (by omega) ?_).mono ?_
  · intro i hi
    obtain ⟨b', o', e, _, hc⟩ := h.at_ hi
    simp at e
    obtain ⟨rfl, rfl⟩ := e
    rw [Go.WideShapes.add_plain]
    exact hc
  · rintro e w' ⟨v', rfl, hr, _, hb⟩
    obtain ⟨p, d, rfl, ho⟩ := Own.of_row hr h.len hb.size
    exact ⟨p, n, d, rfl, ho, hb⟩
end Go.Proofs.Ytcbjngndlofpfaa
