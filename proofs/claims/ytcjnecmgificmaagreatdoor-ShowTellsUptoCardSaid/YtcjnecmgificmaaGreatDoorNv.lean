/- Numerals of at most five digits, as strings. No program in sight. -/
import Derived.Test.YtcjnecmgificmaaGreatDoorNu
import Derived.Test.YtcjnecmgificmaaGreatDoorStb
namespace Go.Proofs.YtcjnecmgificmaaGreatDoor
open Go.Lib
set_option linter.unusedVariables false

instance dgB_dec (c : UInt8) : Decidable (dgB c) := by unfold dgB; infer_instance
instance canL_dec (l : List UInt8) : Decidable (canL l) := by unfold canL; infer_instance
/-- a text that is a numeral of at most five digits, and its number -/
def canS (s : ByteArray) : Bool := decide (canL s.data.toList)
def valS (s : ByteArray) : Nat := valL s.data.toList 0
def itoS (n : Int) : ByteArray := ⟨(itoa n).toArray⟩
theorem canS_val {s : ByteArray} (h : canS s = true) : atoiAll s.data.toList = .ok ((valS s : Nat) : Int) ∧ itoS ((valS s : Nat) : Int) = s ∧ valS s < 100000 := by
  obtain ⟨h1, h2, h3⟩ := canL_val (of_decide_eq_true h)
  refine ⟨h1, ?_, h3⟩
  unfold itoS valS
  rw [h2]
theorem canS_of {s : ByteArray} {v : Int} (hl : s.size ≤ 5) (hv : 0 ≤ v) (h : itoS v = s) : canS s = true := by
  refine decide_eq_true (canL_of (v := v) (by simpa using hl) hv ?_)
  rw [← h]; rfl
theorem canS_num {s : ByteArray} {v : Int} (hl : s.size ≤ 5) (hv : 0 ≤ v) (h : itoS v = s) (ha : atoiAll s.data.toList = .ok v) : canS s = true ∧ v = valS s := by
  have hc := canS_of hl hv h
  refine ⟨hc, ?_⟩
  have := (canS_val hc).1
  rw [ha] at this
  exact NumEnd.ok.inj this
theorem canS_size {s : ByteArray} (h : canS s = true) : 1 ≤ s.size ∧ s.size ≤ 5 := by
  obtain ⟨h1, h2, _⟩ := of_decide_eq_true (p := canL s.data.toList) h
  have h3 := List.length_pos_iff.2 h1
  rw [Array.length_toList] at h2 h3
  exact ⟨h3, h2⟩
theorem data_at {s : ByteArray} {i : Nat} (h : i < s.size) : s.data.toList[i]? = some s[i] := by
  rw [Array.getElem?_toList]
  exact Array.getElem?_eq_getElem h
theorem sAt_nat {s : ByteArray} {i : Nat} {c : UInt8} (h : s.data.toList[i]? = some c) : sAt s i = (c.toNat : Int) := by
  unfold sAt sb
  rw [List.getD_eq_getElem?_getD, List.getElem?_map, h]
  rfl
def digS (c : Int) : Bool := decide (48 ≤ c) && decide (c ≤ 57)
/-- the number of the first digits -/
def valT (s : ByteArray) (i : Nat) : Int := (valL (s.data.toList.take i) 0 : Nat)
theorem valT_zero (s : ByteArray) : valT s 0 = 0 := by simp [valT, valL]
theorem valT_all (s : ByteArray) : valT s s.size = (valS s : Nat) := by
  unfold valT valS
  rw [List.take_of_length_le (by simp)]
theorem valT_succ {s : ByteArray} {i : Nat} (h : i < s.size) (hd : digS (sAt s i) = true) : valT s (i + 1) = 10 * valT s i + (sAt s i - 48) := by
  obtain ⟨c, hc⟩ : ∃ c, s.data.toList[i]? = some c := ⟨_, data_at h⟩
  have hs := sAt_nat hc
  unfold digS at hd
  simp only [Bool.and_eq_true, decide_eq_true_eq] at hd
  unfold valT
  rw [List.take_add_one, hc, Option.toList_some, valL_push, hs]
  rw [hs] at hd
  omega
theorem valT_in {s : ByteArray} {i : Nat} (hi : i ≤ s.size) (h5 : i ≤ 5) (hd : ∀ j, j < i → digS (sAt s j) = true) : 0 ≤ valT s i ∧ valT s i < 100000 := by
  have hc : ∀ c ∈ s.data.toList.take i, dgB c := by
    intro c hc
    obtain ⟨j, hj, he⟩ := List.mem_iff_getElem.1 hc
    rw [List.length_take] at hj
    rw [List.getElem_take] at he
    have h1 : s.data.toList[j]? = some c := by rw [List.getElem?_eq_getElem (by omega), he]
    have h2 := hd j (by omega)
    rw [sAt_nat h1] at h2
    unfold digS at h2
    simp only [Bool.and_eq_true, decide_eq_true_eq] at h2
    unfold dgB
    omega
  have h1 := valL_lt _ 0 hc
  have h2 : 10 ^ (s.data.toList.take i).length ≤ 10 ^ 5 := Nat.pow_le_pow_right (by decide) (by rw [List.length_take]; omega)
  unfold valT
  omega
theorem canS_dig {s : ByteArray} (h0 : s.size ≠ 0) (h5 : s.size ≤ 5) (hz : 1 < s.size → sAt s 0 ≠ 48) (hd : ∀ j, j < s.size → digS (sAt s j) = true) : canS s = true := by
  refine decide_eq_true ⟨fun e => h0 ?_, by simpa using h5, fun c hc => ?_, fun h1 e => ?_⟩
  · have := congrArg List.length e
    simpa using this
  · obtain ⟨i, hi, he⟩ := List.mem_iff_getElem.1 hc
    have hi' : i < s.size := by simpa using hi
    have hh := sAt_nat (s := s) (i := i) (c := c) (by rw [List.getElem?_eq_getElem hi, he])
    have h2 := hd i hi'
    rw [hh] at h2
    unfold digS at h2
    simp only [Bool.and_eq_true, decide_eq_true_eq] at h2
    unfold dgB
    omega
  · have h2 : 1 < s.size := by simpa using h1
    have h3 : s.data.toList[0]? = some 48 := by rw [← List.head?_eq_getElem?]; exact e
    exact hz h2 (sAt_nat h3)
theorem canS_not {s : ByteArray} (h : s.size = 0 ∨ 5 < s.size ∨ (1 < s.size ∧ sAt s 0 = 48) ∨ ∃ j, j < s.size ∧ digS (sAt s j) = false) : canS s = false := by
  refine decide_eq_false fun ⟨h1, h2, h3, h4⟩ => ?_
  rcases h with h | h | ⟨h, h5⟩ | ⟨j, hj, h5⟩
  · exact h1 (List.eq_nil_of_length_eq_zero (by simpa using h))
  · have : s.size ≤ 5 := by simpa using h2
    omega
  · obtain ⟨c, hc⟩ : ∃ c, s.data.toList[0]? = some c := ⟨_, data_at (show 0 < s.size by omega)⟩
    rw [sAt_nat hc] at h5
    refine h4 (by simpa using h) ?_
    rw [List.head?_eq_getElem?, hc]
    congr 1
    rw [← UInt8.toNat_inj]
    show c.toNat = 48
    omega
  · obtain ⟨c, hc⟩ : ∃ c, s.data.toList[j]? = some c := ⟨_, data_at hj⟩
    have := h3 c (List.mem_of_getElem? hc)
    rw [sAt_nat hc] at h5
    unfold dgB at this
    unfold digS at h5
    simp only [Bool.and_eq_false_iff, decide_eq_false_iff_not] at h5
    omega
/-- what a small number's text is -/
def numB (s : ByteArray) (most : Int) : Bool := canS s && decide ((valS s : Int) ≤ most)
def numE (s : ByteArray) (most : Int) : Int := if numB s most = true then 0 else 3
def numV (s : ByteArray) (most : Int) : Int := if numB s most = true then (valS s : Int) else 0
theorem itoS_size (n : Int) (h0 : 0 ≤ n) (h1 : n < 100000) : 1 ≤ (itoS n).size ∧ (itoS n).size ≤ 5 := by
  have hi : itoa n = decDigits n.toNat := by unfold itoa; rw [if_neg (by omega)]
  have hs : (itoS n).size = (decDigits n.toNat).length := by
    show (itoa n).toArray.size = _
    rw [List.size_toArray, hi]
  rw [hs]
  have key : ∀ k m : Nat, m < 10 ^ (k + 1) → 1 ≤ (decDigits m).length ∧ (decDigits m).length ≤ k + 1 := by
    intro k
    induction k with
    | zero => intro m hm; rw [decDigits_one (by omega)]; simp
    | succ k ih =>
      intro m hm
      rw [decDigits]
      split
      · simp
      · have := ih (m / 10) (by rw [Nat.pow_succ] at hm; omega)
        rw [List.length_append]
        simp only [List.length_cons, List.length_nil]
        omega
  exact key 4 n.toNat (by omega)
end Go.Proofs.YtcjnecmgificmaaGreatDoor
