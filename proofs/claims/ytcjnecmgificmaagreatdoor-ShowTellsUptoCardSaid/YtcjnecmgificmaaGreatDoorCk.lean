/- Lists of records as cells. -/
import Derived.Test.YtcjnecmgificmaaGreatDoorMa4
namespace Go.Proofs.YtcjnecmgificmaaGreatDoor
open Go.RowKit Go.Sort
set_option linter.unusedVariables false
set_option linter.unusedSimpArgs false

theorem chunk_len {α β : Type} {f : α → List β} {k : Nat} (hf : ∀ x, (f x).length = k) : ∀ l : List α, (l.flatMap f).length = l.length * k
  | [] => by simp
  | a :: l => by rw [List.flatMap_cons, List.length_append, hf, chunk_len hf l, List.length_cons]; rw [Nat.add_mul]; omega
theorem chunk_at {α β : Type} {f : α → List β} {k : Nat} (hf : ∀ x, (f x).length = k) : ∀ {l : List α} {i : Nat} {x : α}, l[i]? = some x → ((l.flatMap f).drop (i * k)).take k = f x
  | [], i, x, h => by simp at h
  | a :: l, 0, x, h => by
    simp at h; subst h
    rw [Nat.zero_mul, List.drop_zero, List.flatMap_cons, List.take_append_of_le_length (by rw [hf]; exact Nat.le_refl _), List.take_of_length_le (by rw [hf]; exact Nat.le_refl _)]
  | a :: l, i + 1, x, h => by
    have h' : l[i]? = some x := by simpa using h
    have e : (i + 1) * k = (f a).length + i * k := by rw [hf, Nat.add_mul]; omega
    rw [List.flatMap_cons, e, ← List.drop_drop, List.drop_left]
    exact chunk_at hf h'
theorem chunk_le {α β : Type} {f : α → List β} {k : Nat} (hf : ∀ x, (f x).length = k) {l : List α} {i : Nat} (h : i < l.length) : i * k + k ≤ (l.flatMap f).length := by
  rw [chunk_len hf]
  have : (i + 1) * k ≤ l.length * k := Nat.mul_le_mul_right _ h
  rw [Nat.add_mul] at this; omega
theorem chunk_push {α β : Type} (f : α → List β) (l : List α) (x : α) : l.flatMap f ++ f x = (l ++ [x]).flatMap f := by simp
theorem chunk_take {α β : Type} {f : α → List β} {k : Nat} (hf : ∀ x, (f x).length = k) : ∀ (l : List α) (i : Nat), (l.flatMap f).take (i * k) = (l.take i).flatMap f
  | [], i => by simp
  | a :: l, 0 => by simp
  | a :: l, i + 1 => by
    have e : (i + 1) * k = (f a).length + i * k := by rw [hf, Nat.add_mul]; omega
    rw [List.flatMap_cons, e, List.take_length_add_append, List.take_succ_cons, List.flatMap_cons, chunk_take hf l i]
theorem chunk_drop {α β : Type} {f : α → List β} {k : Nat} (hf : ∀ x, (f x).length = k) : ∀ (l : List α) (i : Nat), (l.flatMap f).drop (i * k) = (l.drop i).flatMap f
  | [], i => by simp
  | a :: l, 0 => by simp
  | a :: l, i + 1 => by
    have e : (i + 1) * k = (f a).length + i * k := by rw [hf, Nat.add_mul]; omega
    rw [List.flatMap_cons, e, ← List.drop_drop, List.drop_left, List.drop_succ_cons, chunk_drop hf l i]
/-- records out of typed parts -/
theorem recs_of {α : Type} {f : α → List PV} {Q : α → Prop} : ∀ {L : List (List PV)}, (∀ x ∈ L, ∃ a, Q a ∧ x = f a) → ∃ l : List α, l.length = L.length ∧ L.flatten = l.flatMap f ∧ ∀ a ∈ l, Q a
  | [], _ => ⟨[], rfl, rfl, by simp⟩
  | x :: L, h => by
    obtain ⟨a, h1, rfl⟩ := h x (by simp)
    obtain ⟨l, h2, h3, h4⟩ := recs_of (L := L) fun y hy => h y (by simp [hy])
    exact ⟨a :: l, by simp [h2], by simp [h3], fun b hb => by
      rcases List.mem_cons.1 hb with rfl | hb
      · exact h1
      · exact h4 b hb⟩
/-- a slice of records -/
theorem ty_recs {P : Program} {n t e sz : Nat} {ps : List PV} {α : Type} {f : α → List PV} {Q : α → Prop} (hu : P.underlying t = some (.slice e)) (hs : P.cellsOf e = sz) (hT : Ty P (n + 1) t ps) (hr : ∀ x, Ty P n e x → ∃ a, Q a ∧ x = f a) :
    ∃ l : List α, ps = [.sl l.length sz (l.flatMap f)] ∧ l.length * P.bytesOf e ≤ reachBytes ∧ ∀ a ∈ l, Q a := by
  obtain ⟨L, rfl, h2, h3⟩ := ty_sliceS hu hs hT
  obtain ⟨l, k1, k2, k3⟩ := recs_of (f := f) (Q := Q) fun x hx => hr x (h3 x hx).1
  exact ⟨l, by rw [k1, k2], by rw [k1]; exact h2, k3⟩
end Go.Proofs.YtcjnecmgificmaaGreatDoor
