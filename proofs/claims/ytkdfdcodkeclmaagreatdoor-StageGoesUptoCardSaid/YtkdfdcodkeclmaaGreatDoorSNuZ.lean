/- Strings and their bytes. Numerals of at most five digits: what strconv's numbers and a plain reading have in common. No program in sight. Numerals of at most five digits, as strings. No program in sight. -/
import Derived.Test.YtkdfdcodkeclmaaGreatDoorSMa3
import Derived.Lib.ItoaNum
import Derived.Lib.AtoiAll
namespace Go.Proofs.YtkdfdcodkeclmaaGreatDoor
open Go.RowKit Go.Sort
set_option linter.unusedVariables false
end Go.Proofs.YtkdfdcodkeclmaaGreatDoor
namespace Go.Proofs.YtkdfdcodkeclmaaGreatDoor
open Go.Lib
set_option linter.unusedVariables false
def dgB (c : UInt8) : Prop := 48 ≤ c.toNat ∧ c.toNat ≤ 57
def valL : List UInt8 → Nat → Nat
 | [], a => a
 | c :: r, a => valL r (a * 10 + (c.toNat - 48))
theorem valL_push : ∀ (l : List UInt8) (c : UInt8) (a : Nat), valL (l ++ [c]) a = valL l a * 10 + (c.toNat - 48)
 | [], c, a => rfl
 | x :: l, c, a => by simp only [List.cons_append, valL]; exact valL_push l c _
theorem valL_lt : ∀ (l : List UInt8) (a : Nat), (∀ c ∈ l, dgB c) → valL l a < (a + 1) * 10 ^ l.length
 | [], a, _ => by simp [valL]
 | c :: r, a, h => by
  have h0 := h c (by simp)
  have h1 := valL_lt r (a * 10 + (c.toNat - 48)) fun x hx => h x (by simp [hx])
  have h2 : (a * 10 + (c.toNat - 48) + 1) * 10 ^ r.length ≤ ((a + 1) * 10) * 10 ^ r.length := Nat.mul_le_mul_right _ (by unfold dgB at h0; omega)
  simp only [valL, List.length_cons, Nat.pow_succ]
  calc valL r (a * 10 + (c.toNat - 48)) < _ := h1
   _ ≤ _ := h2
   _ = (a + 1) * (10 ^ r.length * 10) := by rw [Nat.mul_assoc, Nat.mul_comm 10]
theorem parse_ok : ∀ (l : List UInt8) (a : Nat), (∀ c ∈ l, dgB c) → (a + 1) * 10 ^ l.length ≤ 1000000000000000000 → parseUint10 a l = .ok (valL l a)
 | [], a, _, _ => rfl
 | c :: r, a, h, hb => by
  have h0 := h c (by simp)
  unfold dgB at h0
  have hp : 1 ≤ 10 ^ r.length := Nat.one_le_pow _ _ (by decide)
  have e1 : (a + 1) * 10 ^ (c :: r).length = (a + 1) * 10 * 10 ^ r.length := by rw [List.length_cons, Nat.pow_succ, Nat.mul_assoc, Nat.mul_comm 10]
  rw [e1] at hb
  have h1 : (a + 1) * 10 ≤ (a + 1) * 10 * 10 ^ r.length := Nat.le_mul_of_pos_right _ hp
  simp only [parseUint10, valL]
  rw [if_pos ⟨h0.1, h0.2⟩, if_neg (by omega), if_neg (by omega)]
  refine parse_ok r _ (fun x hx => h x (by simp [hx])) ?_
  exact Nat.le_trans (Nat.mul_le_mul_right _ (by omega)) hb
/-- a numeral of at most five digits -/
def canL (l : List UInt8) : Prop := l ≠ [] ∧ l.length ≤ 5 ∧ (∀ c ∈ l, dgB c) ∧ (1 < l.length → l.head? ≠ some 48)
theorem u8_dg {c : UInt8} (h : dgB c) : UInt8.ofNat (48 + (c.toNat - 48)) = c := by
 unfold dgB at h
 rw [show 48 + (c.toNat - 48) = c.toNat by omega]
 simp
theorem dec_push {a d : Nat} (ha : 1 ≤ a) (hd : d < 10) : decDigits (a * 10 + d) = decDigits a ++ [UInt8.ofNat (48 + d)] := by
 rw [decDigits, dif_neg (by omega), show (a * 10 + d) / 10 = a by omega, show (a * 10 + d) % 10 = d by omega]
theorem dec_val : ∀ (l : List UInt8) (a : Nat), 1 ≤ a → (∀ c ∈ l, dgB c) → decDigits (valL l a) = decDigits a ++ l
 | [], a, _, _ => by simp [valL]
 | c :: r, a, ha, h => by
  have h0 := h c (by simp)
  have h0' := h0
  unfold dgB at h0'
  simp only [valL]
  rw [dec_val r _ (by omega) fun x hx => h x (by simp [hx]), dec_push ha (by omega), u8_dg h0, List.append_assoc]
  rfl
theorem canL_val {l : List UInt8} (h : canL l) : atoiAll l = .ok ((valL l 0 : Nat) : Int) ∧ itoa ((valL l 0 : Nat) : Int) = l ∧ valL l 0 < 100000 := by
 obtain ⟨h1, h2, h3, h4⟩ := h
 have hlt := valL_lt l 0 h3
 have hpw : 10 ^ l.length ≤ 10 ^ 5 := Nat.pow_le_pow_right (by decide) h2
 have hv : valL l 0 < 100000 := by omega
 refine ⟨?_, ?_, hv⟩
 ·match l, h1, h3, hpw, hv with
  | c :: r, _, h3, hpw, hv =>
   have h0 := h3 c (by simp)
   unfold dgB at h0
   unfold atoiAll
   simp only
   rw [if_neg (by omega)]
   unfold parseMag
   rw [if_neg (by simp), parse_ok _ 0 h3 (by omega)]
   simp only
   rw [if_neg (by omega), if_neg (by omega), if_neg (by omega)]
 ·unfold itoa
  rw [if_neg (by omega), Int.toNat_natCast]
  match l, h1, h3, h4 with
  | c :: r, _, h3, h4 =>
   have h0 := h3 c (by simp)
   have h0' := h0
   unfold dgB at h0'
   simp only [valL, Nat.zero_mul, Nat.zero_add]
   cases r with
   | nil => simp only [valL]; rw [decDigits_one (by omega), u8_dg h0]
   | cons x r =>
    have hc : c ≠ 48 := fun e => h4 (by simp) (by simp [e])
    have hc1 : c.toNat ≠ 48 := fun e => hc (by rw [← UInt8.toNat_inj, e]; rfl)
    rw [dec_val _ _ (by omega) fun y hy => h3 y (by simp [hy]), decDigits_one (by omega), u8_dg h0]
    rfl
theorem dec_dg (n : Nat) : ∀ c ∈ decDigits n, dgB c := by
 induction n using Nat.strongRecOn with
 | _ n ih =>
  intro c hc
  rw [decDigits] at hc
  have key : ∀ d, d < 10 → dgB (UInt8.ofNat (48 + d)) := fun d hd => by
   unfold dgB
   rw [UInt8.toNat_ofNat']
   omega
  split at hc
  ·simp only [List.mem_singleton] at hc
   rw [hc]; exact key n (by assumption)
  ·rcases List.mem_append.1 hc with hc | hc
   ·exact ih (n / 10) (by omega) c hc
   ·simp only [List.mem_singleton] at hc
    rw [hc]; exact key _ (by omega)
theorem dec_ne (n : Nat) : decDigits n ≠ [] := by
 rw [decDigits]; split <;> simp
theorem dec_head (n : Nat) (hn : 1 ≤ n) : (decDigits n).head? ≠ some 48 := by
 induction n using Nat.strongRecOn with
 | _ n ih =>
  rw [decDigits]
  split
  ·simp only [List.head?_cons, ne_eq, Option.some.injEq]
   intro e
   have := congrArg UInt8.toNat e
   rw [UInt8.toNat_ofNat'] at this
   have e48 : (48 : UInt8).toNat = 48 := rfl
   omega
  ·have := ih (n / 10) (by omega) (by omega)
   rw [List.head?_append]
   cases hq : (decDigits (n / 10)).head? with
   | none => exact absurd (List.head?_eq_none_iff.1 hq) (dec_ne _)
   | some c => rw [hq] at this; simpa using this
theorem canL_of {l : List UInt8} {v : Int} (hl : l.length ≤ 5) (hv : 0 ≤ v) (h : itoa v = l) : canL l := by
 unfold itoa at h
 rw [if_neg (by omega)] at h
 subst h
 refine ⟨dec_ne _, hl, dec_dg _, fun h1 => ?_⟩
 by_cases h0 : v.toNat = 0
 ·rw [h0, decDigits_one (by decide)] at h1
  simp at h1
 ·exact dec_head _ (by omega)
end Go.Proofs.YtkdfdcodkeclmaaGreatDoor
namespace Go.Proofs.YtkdfdcodkeclmaaGreatDoor
open Go.Lib
set_option linter.unusedVariables false
instance dgB_dec (c : UInt8) : Decidable (dgB c) := by unfold dgB; infer_instance
instance canL_dec (l : List UInt8) : Decidable (canL l) := by unfold canL; infer_instance
/-- a text that is a numeral of at most five digits, and its number -/
def canS (s : ByteArray) : Bool := decide (canL s.data.toList)
def valS (s : ByteArray) : Nat := valL s.data.toList 0
def itoS (n : Int) : ByteArray := ⟨(itoa n).toArray⟩
theorem zgH {s : ByteArray} (h : canS s = true) : atoiAll s.data.toList = .ok ((valS s : Nat) : Int) ∧ itoS ((valS s : Nat) : Int) = s ∧ valS s < 100000 := by
 obtain ⟨h1, h2, h3⟩ := canL_val (of_decide_eq_true h)
 refine ⟨h1, ?_, h3⟩
 unfold itoS valS
 rw [h2]
theorem canS_of {s : ByteArray} {v : Int} (hl : s.size ≤ 5) (hv : 0 ≤ v) (h : itoS v = s) : canS s = true := by
 refine decide_eq_true (canL_of (v := v) (by simpa using hl) hv ?_)
 rw [← h]; rfl
theorem canS_num {s : ByteArray} {v : Int} (hl : s.size ≤ 5) (hv : 0 ≤ v) (h : itoS v = s) (ha : atoiAll s.data.toList = .ok v) : canS s = true ∧ v = valS s := by
 have hc := canS_of hl hv h
 refine ⟨hc, ?_⟩
 have := (zgH hc).1
 rw [ha] at this
 exact NumEnd.ok.inj this
theorem canS_size {s : ByteArray} (h : canS s = true) : 1 ≤ s.size ∧ s.size ≤ 5 := by
 obtain ⟨h1, h2, _⟩ := of_decide_eq_true (p := canL s.data.toList) h
 have h3 := List.length_pos_iff.2 h1
 rw [Array.length_toList] at h2 h3
 exact ⟨h3, h2⟩
theorem data_at {s : ByteArray} {i : Nat} (h : i < s.size) : s.data.toList[i]? = some s[i] := by
 rw [Array.getElem?_toList]
 exact Array.getElem?_eq_getElem h
theorem zeQ {s : ByteArray} {i : Nat} {c : UInt8} (h : s.data.toList[i]? = some c) : sAt s i = (c.toNat : Int) := by
 unfold sAt sb
 rw [List.getD_eq_getElem?_getD, List.getElem?_map, h]
 rfl
def digS (c : Int) : Bool := decide (48 ≤ c) && decide (c ≤ 57)
/-- the number of the first digits -/
def valT (s : ByteArray) (i : Nat) : Int := (valL (s.data.toList.take i) 0 : Nat)
theorem valT_zero (s : ByteArray) : valT s 0 = 0 := by simp [valT, valL]
theorem valT_all (s : ByteArray) : valT s s.size = (valS s : Nat) := by
 unfold valT valS
 rw [List.take_of_length_le (by simp)]
theorem valT_succ {s : ByteArray} {i : Nat} (h : i < s.size) (hd : digS (sAt s i) = true) : valT s (i + 1) = 10 * valT s i + (sAt s i - 48) := by
 obtain ⟨c, hc⟩ : ∃ c, s.data.toList[i]? = some c := ⟨_, data_at h⟩
 have hs := zeQ hc
 unfold digS at hd
 simp only [Bool.and_eq_true, decide_eq_true_eq] at hd
 unfold valT
 rw [List.take_add_one, hc, Option.toList_some, valL_push, hs]
 rw [hs] at hd
 omega
theorem valT_in {s : ByteArray} {i : Nat} (hi : i ≤ s.size) (h5 : i ≤ 5) (hd : ∀ j, j < i → digS (sAt s j) = true) : 0 ≤ valT s i ∧ valT s i < 100000 := by
 have hc : ∀ c ∈ s.data.toList.take i, dgB c := by
  intro c hc
  obtain ⟨j, hj, he⟩ := List.mem_iff_getElem.1 hc
  rw [List.length_take] at hj
  rw [List.getElem_take] at he
  have h1 : s.data.toList[j]? = some c := by rw [List.getElem?_eq_getElem (by omega), he]
  have h2 := hd j (by omega)
  rw [zeQ h1] at h2
  unfold digS at h2
  simp only [Bool.and_eq_true, decide_eq_true_eq] at h2
  unfold dgB
  omega
 have h1 := valL_lt _ 0 hc
 have h2 : 10 ^ (s.data.toList.take i).length ≤ 10 ^ 5 := Nat.pow_le_pow_right (by decide) (by rw [List.length_take]; omega)
 unfold valT
 omega
theorem canS_dig {s : ByteArray} (h0 : s.size ≠ 0) (h5 : s.size ≤ 5) (hz : 1 < s.size → sAt s 0 ≠ 48) (hd : ∀ j, j < s.size → digS (sAt s j) = true) : canS s = true := by
 refine decide_eq_true ⟨fun e => h0 ?_, by simpa using h5, fun c hc => ?_, fun h1 e => ?_⟩
 ·have := congrArg List.length e
  simpa using this
 ·obtain ⟨i, hi, he⟩ := List.mem_iff_getElem.1 hc
  have hi' : i < s.size := by simpa using hi
  have hh := zeQ (s := s) (i := i) (c := c) (by rw [List.getElem?_eq_getElem hi, he])
  have h2 := hd i hi'
  rw [hh] at h2
  unfold digS at h2
  simp only [Bool.and_eq_true, decide_eq_true_eq] at h2
  unfold dgB
  omega
 ·have h2 : 1 < s.size := by simpa using h1
  have h3 : s.data.toList[0]? = some 48 := by rw [← List.head?_eq_getElem?]; exact e
  exact hz h2 (zeQ h3)
theorem canS_not {s : ByteArray} (h : s.size = 0 ∨ 5 < s.size ∨ (1 < s.size ∧ sAt s 0 = 48) ∨ ∃ j, j < s.size ∧ digS (sAt s j) = false) : canS s = false := by
 refine decide_eq_false fun ⟨h1, h2, h3, h4⟩ => ?_
 rcases h with h | h | ⟨h, h5⟩ | ⟨j, hj, h5⟩
 ·exact h1 (List.eq_nil_of_length_eq_zero (by simpa using h))
 ·have : s.size ≤ 5 := by simpa using h2
  omega
 ·obtain ⟨c, hc⟩ : ∃ c, s.data.toList[0]? = some c := ⟨_, data_at (show 0 < s.size by omega)⟩
  rw [zeQ hc] at h5
  refine h4 (by simpa using h) ?_
  rw [List.head?_eq_getElem?, hc]
  congr 1
  rw [← UInt8.toNat_inj]
  show c.toNat = 48
  omega
 ·obtain ⟨c, hc⟩ : ∃ c, s.data.toList[j]? = some c := ⟨_, data_at hj⟩
  have := h3 c (List.mem_of_getElem? hc)
  rw [zeQ hc] at h5
  unfold dgB at this
  unfold digS at h5
  simp only [Bool.and_eq_false_iff, decide_eq_false_iff_not] at h5
  omega
/-- what a small number's text is -/
def numB (s : ByteArray) (most : Int) : Bool := canS s && decide ((valS s : Int) ≤ most)
def numE (s : ByteArray) (most : Int) : Int := if numB s most = true then 0 else 3
def numV (s : ByteArray) (most : Int) : Int := if numB s most = true then (valS s : Int) else 0
end Go.Proofs.YtkdfdcodkeclmaaGreatDoor
