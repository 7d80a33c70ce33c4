/- Orders of keys and nets; what is put into a sorted list. Plain Lean. -/
import Derived.Test.YtkdfdcodkeclmaaGreatDoorSSo1
import Derived.Test.YtkdfdcodkeclmaaGreatDoorSAp4
import Derived.Test.YtkdfdcodkeclmaaGreatDoorSAp2
namespace Go.Proofs.YtkdfdcodkeclmaaGreatDoor
open Go.RowKit Go.Sort
set_option linter.unusedVariables false
set_option linter.unusedSimpArgs false
theorem bl_irrefl : ∀ x : List UInt8, Op.bytesLess x x = false
 | [] => rfl
 | a :: x => by simp [Op.bytesLess, bl_irrefl x]
theorem bl_trans : ∀ x y z : List UInt8, Op.bytesLess x y = true → Op.bytesLess y z = true → Op.bytesLess x z = true
 | [], y, [], h1, h2 => by cases y <;> simp [Op.bytesLess] at h2
 | [], y, c :: z, h1, h2 => rfl
 | a :: x, [], z, h1, h2 => by simp [Op.bytesLess] at h1
 | a :: x, b :: y, [], h1, h2 => by simp [Op.bytesLess] at h2
 | a :: x, b :: y, c :: z, h1, h2 => by
  simp only [Op.bytesLess, Bool.or_eq_true, decide_eq_true_eq, Bool.and_eq_true, beq_iff_eq] at h1 h2 ⊢
  rcases h1 with h1 | ⟨rfl, h1⟩ <;> rcases h2 with h2 | ⟨rfl, h2⟩
  ·exact .inl (UInt8.lt_trans h1 h2)
  ·exact .inl h1
  ·exact .inl h2
  ·exact .inr ⟨rfl, bl_trans x y z h1 h2⟩
theorem bl_total : ∀ x y : List UInt8, Op.bytesLess x y = false → Op.bytesLess y x = false → x = y
 | [], [], _, _ => rfl
 | [], b :: y, h1, _ => by simp [Op.bytesLess] at h1
 | a :: x, [], _, h2 => by simp [Op.bytesLess] at h2
 | a :: x, b :: y, h1, h2 => by
  simp only [Op.bytesLess, Bool.or_eq_false_iff, decide_eq_false_iff_not, Bool.and_eq_false_iff, beq_eq_false_iff_ne] at h1 h2
  have hab : a = b := UInt8.le_antisymm (UInt8.not_lt.1 h2.1) (UInt8.not_lt.1 h1.1)
  subst hab
  have h3 := h1.2.resolve_left (fun h => h rfl)
  have h4 := h2.2.resolve_left (fun h => h rfl)
  rw [bl_total x y h3 h4]
theorem zfT (a : ByteArray) : sLt a a = false := bl_irrefl _
theorem zef {a b c : ByteArray} (h1 : sLt a b = true) (h2 : sLt b c = true) : sLt a c = true := bl_trans _ _ _ h1 h2
theorem sLt_total {a b : ByteArray} (h1 : sLt a b = false) (h2 : sLt b a = false) : a = b := by
 have := bl_total _ _ h1 h2
 rw [ByteArray.toList_eq, ByteArray.toList_eq] at this
 exact ByteArray.ext (Array.toList_inj.1 this)
def Srt {α : Type} (lt : α → α → Prop) (l : List α) : Prop := ∀ i j, (h : i < j) → (hj : j < l.length) → lt (l[i]'(by omega)) l[j]
theorem srt_of {α : Type} {lt : α → α → Prop} (ht : ∀ a b c, lt a b → lt b c → lt a c) {l : List α} (h : ∀ i, (hi : i + 1 < l.length) → lt (l[i]'(by omega)) l[i + 1]) : Srt lt l := by
 intro i j hij hj
 induction j with
 | zero => omega
 | succ j ih =>
  by_cases e : i = j
  ·subst e; exact h i hj
  ·exact ht _ _ _ (ih qO qO) (h j hj)
theorem srt_filter {α : Type} {lt : α → α → Prop} (q : α → Bool) : ∀ {l : List α}, Srt lt l → Srt lt (l.filter q) := by
 intro l h
 have hp : l.Pairwise lt := List.pairwise_iff_getElem.2 fun i j hi hj hij => h i j hij hj
 have hp2 : (l.filter q).Pairwise lt := hp.sublist List.filter_sublist
 intro i j hij hj
 exact List.pairwise_iff_getElem.1 hp2 i j qO hj hij
/-- how many stand ahead of a thing -/
def posL {α : Type} (lt : α → Bool) (l : List α) : Nat := l.findIdx fun x => !lt x
theorem zeK {α : Type} (lt : α → Bool) (l : List α) : posL lt l ≤ l.length := List.findIdx_le_length
theorem zgj {α : Type} {lt : α → Bool} {l : List α} (u : Nat) (h : u < posL lt l) (hu : u < l.length) : lt l[u] = true := by
 have := List.not_of_lt_findIdx (p := fun x => !lt x) (xs := l) h
 simpa using this
theorem posL_hi {α : Type} {lt : α → Bool} {l : List α} (hm : ∀ i j, (h : i < j) → (hj : j < l.length) → lt l[j] = true → lt (l[i]'(by omega)) = true) (u : Nat) (h : posL lt l ≤ u) (hu : u < l.length) : lt l[u] = false := by
 have hp : posL lt l < l.length := by omega
 have h1 : (!lt (l[posL lt l]'hp)) = true := List.findIdx_getElem (p := fun x => !lt x) (xs := l) (w := hp)
 rcases hc : lt l[u] with _ | _
 ·rfl
 ·exfalso
  have h2 : lt (l[posL lt l]'hp) = true := by
   rcases Nat.lt_or_ge (posL lt l) u with h3 | h3
   ·exact hm _ _ h3 hu hc
   ·have e : posL lt l = u := by omega
    simp only [e]; exact hc
  rw [h2] at h1; cases h1
theorem bk_char {α : Type} {g : α → Bool} {l : List α} {p : Nat} (hlo : ∀ u, u < p → (hu : u < l.length) → g l[u] = false) (hhi : ∀ u, p ≤ u → (hu : u < l.length) → g l[u] = true) : ∀ k, p ≤ k → k ≤ l.length → bk g l k = p
 | 0, h, _ => by
  have : p = 0 := by omega
  rw [this]; rfl
 | k + 1, h, hk => by
  have hx : l[k]? = some (l[k]'qO) := List.getElem?_eq_getElem qO
  by_cases e : p = k + 1
  ·rw [bk_no hx (hlo k (by omega) (by omega)), e]
  ·rw [bk_yes hx (hhi k (by omega) (by omega)), bk_char hlo hhi k (by omega) (by omega)]
theorem insE_at {α : Type} {gt : α → α → Bool} {l : List α} {x : α} {p : Nat} (hp : p ≤ l.length) (hlo : ∀ u, u < p → (hu : u < l.length) → gt l[u] x = false) (hhi : ∀ u, p ≤ u → (hu : u < l.length) → gt l[u] x = true) : insE gt l x = l.take p ++ x :: l.drop p := by
 unfold insE
 rw [bk_char hlo hhi l.length hp (Nat.le_refl _)]
theorem sortE_id {α : Type} {gt : α → α → Bool} {l : List α} (h : ∀ i j, (h : i < j) → (hj : j < l.length) → gt (l[i]'(by omega)) l[j] = false) : ∀ i, i ≤ l.length → zcr gt (l.take i) = l.take i
 | 0, _ => rfl
 | i + 1, hi => by
  have hx : l[i]? = some (l[i]'qO) := List.getElem?_eq_getElem qO
  rw [zeG gt l i _ hx, sortE_id h i (by omega), insE_at (p := i) (by rw [List.length_take]; omega) (fun u hu hl => by rw [List.getElem_take]; exact h u i hu (by omega)) (fun u hu hl => by rw [List.length_take] at hl; omega)]
  rw [List.take_of_length_le (by rw [List.length_take]; omega), List.drop_eq_nil_of_le (by rw [List.length_take]; omega), ← List.take_succ_eq_append_getElem (by omega)]
theorem sortE_put {α : Type} {gt : α → α → Bool} {l : List α} {x : α} {p : Nat} (h : ∀ i j, (h : i < j) → (hj : j < l.length) → gt (l[i]'(by omega)) l[j] = false) (hp : p ≤ l.length) (hlo : ∀ u, u < p → (hu : u < l.length) → gt l[u] x = false) (hhi : ∀ u, p ≤ u → (hu : u < l.length) → gt l[u] x = true) : zcr gt (l ++ [x]) = l.take p ++ x :: l.drop p := by
 have h1 := sortE_id h l.length (Nat.le_refl _)
 rw [List.take_length] at h1
 have h2 : zcr gt (l ++ [x]) = insE gt (zcr gt l) x := by
  unfold zcr
  rw [List.foldl_append]
  rfl
 rw [h2, h1, insE_at hp hlo hhi]
theorem ord3_lt {a b : Int} : ord3 a b < 0 ↔ a < b := by unfold ord3; split <;> (try split) <;> omega
theorem ord3_gt {a b : Int} : 0 < ord3 a b ↔ b < a := by unfold ord3; split <;> (try split) <;> omega
def nLt (m n : NtP) : Prop := zbH m.1 m.2 n.1 n.2 < 0
theorem zfv {m n : NtP} : nLt m n ↔ m.1 < n.1 ∨ (m.1 = n.1 ∧ m.2 < n.2) := by
 unfold nLt zbH
 split
 ·rename_i h; rw [ord3_lt]; constructor
  ·intro h2; exact .inr ⟨h, h2⟩
  ·rintro (h2 | h2)
   ·omega
   ·exact h2.2
 ·rename_i h; rw [ord3_lt]; constructor
  ·intro h2; exact .inl h2
  ·rintro (h2 | h2)
   ·exact h2
   ·exact absurd h2.1 h
theorem nGt_iff {m n : NtP} : 0 < zbH m.1 m.2 n.1 n.2 ↔ nLt n m := by
 rw [zfv]
 unfold zbH
 split
 ·rename_i h; rw [ord3_gt]; constructor
  ·intro h2; exact .inr ⟨h.symm, h2⟩
  ·rintro (h2 | h2)
   ·omega
   ·exact h2.2
 ·rename_i h; rw [ord3_gt]; constructor
  ·intro h2; exact .inl h2
  ·rintro (h2 | h2)
   ·exact h2
   ·exact absurd h2.1.symm h
theorem nLt_trans (a b c : NtP) (h1 : nLt a b) (h2 : nLt b c) : nLt a c := by
 rw [zfv] at *
 omega
theorem nLt_total {m n : NtP} (h1 : ¬ nLt m n) (h2 : ¬ nLt n m) : m = n := by
 rw [zfv] at h1 h2
 exact Prod.ext qO qO
theorem fnz_all {f : Nat → Int} : ∀ {n : Nat}, fnz f n = 0 → ∀ j, j < n → f j = 0
 | n + 1, h, j, hj => by
  have h1 : fnz f n = 0 := by
   by_cases e : fnz f n = 0
   ·exact e
   ·simp [fnz, e] at h
  have h2 : f n = 0 := by simpa [fnz, h1] using h
  by_cases e : j = n
  ·subst e; exact h2
  ·exact fnz_all h1 j qO
theorem zfK {c : CF} (h : cfE c = 0) : c.ps.length ≤ 6 ∧ (∀ i, (hi : i < c.ps.length) → peE c.ps[i] = 0) ∧ ∀ i, (hi : i + 1 < c.ps.length) → sLt (c.ps[i]'(by omega)).key c.ps[i + 1].key = true := by
 unfold cfE at h
 split at h
 ·rename_i h1; exact absurd h h1.2
 split at h
 ·cases h
 split at h
 ·cases h
 rename_i h6
 have hall := fnz_all h
 have hat : ∀ i, (hi : i < c.ps.length) → peG c.ps i = c.ps[i] := fun i hi => zcj (List.getElem?_eq_getElem hi)
 refine ⟨qO, fun i hi => ?_, fun i hi => ?_⟩
 ·have := hall i hi
  unfold zdq at this
  rw [hat i hi] at this
  by_cases e : peE c.ps[i] = 0
  ·exact e
  ·rw [if_pos e] at this; exact absurd this e
 ·have := hall (i + 1) hi
  unfold zdq at this
  rw [hat (i + 1) hi, Nat.add_sub_cancel, hat i (by omega)] at this
  by_cases e : peE c.ps[i + 1] = 0
  ·rw [if_neg (fun h => h e)] at this
   by_cases e2 : (0 < i + 1 ∧ leK c.ps[i + 1].key (c.ps[i]'(by omega)).key = true) ∨ c.ps[i + 1].key = c.key
   ·rw [if_pos e2] at this; cases this
   ·have h3 : leK c.ps[i + 1].key (c.ps[i]'qO).key = false := by
     rcases hl : leK c.ps[i + 1].key (c.ps[i]'(by omega)).key with _ | _
     ·rfl
     ·exact absurd (.inl ⟨qO, hl⟩) e2
    unfold leK at h3
    rw [Bool.or_eq_false_iff, decide_eq_false_iff_not] at h3
    rcases h4 : sLt (c.ps[i]'(by omega)).key c.ps[i + 1].key with _ | _
    ·exact absurd (sLt_total h3.1 h4) h3.2
    ·rfl
  ·rw [if_pos e] at this; exact absurd this e
theorem zen {p : PE} (h : peE p = 0) : p.nets.length ≤ 8 ∧ ∀ i, (hi : i + 1 < p.nets.length) → nLt (p.nets[i]'(by omega)) p.nets[i + 1] := by
 refine ⟨(zfb h).1, fun i hi => ?_⟩
 unfold peE at h
 split at h
 ·exact absurd h (by assumption)
 split at h
 ·rename_i h1; exact absurd h h1.2
 split at h
 ·cases h
 split at h
 ·rename_i h1; exact absurd h h1.2
 split at h
 ·cases h
 split at h
 ·cases h
 have := fnz_all h (i + 1) hi
 unfold zct at this
 have hat : ∀ j, (hj : j < p.nets.length) → ntG p.nets j = p.nets[j] := fun j hj => by unfold ntG; rw [List.getD_eq_getElem?_getD, List.getElem?_eq_getElem hj]; rfl
 rw [hat (i + 1) hi, Nat.add_sub_cancel, hat i (by omega)] at this
 split at this
 ·rename_i h1; exact absurd this h1
 split at this
 ·cases this
 ·rename_i h1
  unfold nLt
  have : ¬ (0 ≤ zbH (p.nets[i]'qO).1 (p.nets[i]'qO).2 p.nets[i + 1].1 p.nets[i + 1].2) := fun h2 => h1 ⟨qO, h2⟩
  omega
end Go.Proofs.YtkdfdcodkeclmaaGreatDoor
