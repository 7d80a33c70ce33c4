/- Rows of strings, over data; a call that answers a new row. -/
import Derived.Test.YtcjnecmgificmaaGreatDoorMa4
namespace Go.Proofs.YtcjnecmgificmaaGreatDoor
open Go.RowKit Go.Sort
set_option linter.unusedVariables false
set_option linter.unusedSimpArgs false

def strs (ts : List ByteArray) : List PV := ts.map fun s => .v (.string s)
theorem strs_len (ts : List ByteArray) : (strs ts).length = ts.length := by simp [strs]
theorem strs_push (ts : List ByteArray) (s : ByteArray) : strs ts ++ [.v (.string s)] = strs (ts ++ [s]) := by simp [strs]
theorem prep_strs {S : Nat → Prop} {w : World} : ∀ {ts : List ByteArray} {us : List Value}, PRepL S w (strs ts) us → us = ts.map .string
  | [], us, h => by simpa [strs, PRepL] using h
  | t :: ts, us, h => by
    simp only [strs, List.map_cons, PRepL, PRep] at h
    obtain ⟨u, us, rfl, h2, h3⟩ := h
    rw [h2.1, prep_strs (ts := ts) h3]
    rfl
theorem strs_rep {S : Nat → Prop} {w : World} : ∀ ts : List ByteArray, PRepL S w (strs ts) (ts.map .string)
  | [] => by simp [strs, PRepL]
  | t :: ts => by
    simp only [strs, List.map_cons, PRepL, PRep]
    exact ⟨_, _, rfl, ⟨rfl, rfl⟩, strs_rep ts⟩
theorem strs_at {ts : List ByteArray} {i : Nat} {t : ByteArray} (h : ts[i]? = some t) : ((strs ts).drop (i * 1)).take 1 = [.v (.string t)] := by
  rw [Nat.mul_one]
  have hl : i < (strs ts).length := by rw [strs_len]; exact (List.getElem?_eq_some_iff.1 h).1
  rw [List.drop_eq_getElem_cons hl]
  have : (strs ts)[i] = .v (.string t) := by
    obtain ⟨h1, h2⟩ := List.getElem?_eq_some_iff.1 h
    simp [strs, h2]
  rw [this]; rfl
theorem strs_get {ts : List ByteArray} {i : Nat} {t : ByteArray} (h : ts[i]? = some t) : (strs ts)[i]? = some (.v (.string t)) := by simp [strs, h]
/-- a call that answers a new row -/
theorem fn_alloc {P : Program} {f : FuncId} {args : List AV} {vs : List Value} {e : TypeId} {n : Nat} {cs : List PV} {us : List Value} (ha : avals args = some vs) (hl : us.length = n) (hn : n ≤ maxLen) (hp : ∀ S w, PRepL S w cs us)
    (h : ∀ w, Calls P f vs.toArray w fun x w' => x = .returned (.slice (some ⟨w.heap.size, 0, none⟩) n n) ∧ w' = w.alloc (.cells us.toArray e)) : Fn P f args (.row 0) [(0, .row e 1 n cs)] := by
  intro w A us' hA hG hus
  rw [avals_rep ha hus]
  refine (h w).mono ?_
  rintro x w' ⟨rfl, rfl⟩
  refine ⟨_, rfl, A, fun o => if o = 0 then some (.slice (some ⟨w.heap.size, 0, none⟩) n n) else none, ?_, (Below.refl _ w).alloc (Nat.le_refl _) _, fun b hb => .inl hb, fun b hb => ?_, fun o ho => ?_, fun o ob ho => ?_, fun o o' ob ob' v v' b ho ho' _ _ _ _ => ?_, hG⟩
  · simp only [Rep]
    exact ⟨rfl, _, _, _, rfl⟩
  · have := hA b hb
    show b < (w.heap.push _).size
    rw [Array.size_push]
    omega
  · by_cases e : o = 0
    · subst e; cases ho
    · simp only [if_neg e]
  · by_cases e : o = 0
    · subst e
      cases ho
      refine ⟨_, if_pos rfl, ⟨us, hp _ _, by rw [Nat.mul_one]; exact hl, .inr ⟨w.heap.size, n, us.toArray, (0, 0), rfl, Nat.le_refl _, ?_, .inl rfl, Nat.le_refl _, hn, by simp [hl], ?_⟩⟩, fun b hb hA' => ?_⟩
      · show (w.heap.push _)[w.heap.size]? = _
        exact Array.getElem?_push_size
      · simp only [Nat.mul_one]
        rw [List.take_of_length_le (by simp [hl])]
      · simp only [blk, Option.some.injEq] at hb
        subst hb
        exact absurd (hA _ hA') (Nat.lt_irrefl _)
    · simp only [lookO, nbeq e, cond_false] at ho; cases ho
  · have key : ∀ {o : Nat} {ob : AObj}, lookO [(0, AObj.row e 1 n cs)] o = .live ob → o = 0 := fun {o ob} ho => by
      by_cases e : o = 0
      · exact e
      · simp only [lookO, nbeq e, cond_false] at ho; cases ho
    rw [key ho, key ho']
end Go.Proofs.YtcjnecmgificmaaGreatDoor
