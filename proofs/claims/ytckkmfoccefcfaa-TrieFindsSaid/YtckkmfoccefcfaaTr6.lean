/- Tries: what the references do with lists of owned nets is what is done with trees. -/
import Derived.Test.YtckkmfoccefcfaaTr5
namespace Go.Proofs.Ytckkmfoccefcfaa
set_option linter.unusedVariables false
set_option linter.unusedSimpArgs false

theorem strip_grown {t : TR} (is : Key → Own → Bool) (hv : t.valid) : grownL (t.pairs.filter fun x => !is x.1 x.2) = (t.strip is).list := by
  rw [← TR.strip_pairs is t]
  exact grownL_tree (TR.strip_valid is hv).1 (List.Perm.refl _)
theorem strip_short {t : TR} (is : Key → Own → Bool) (hv : t.valid) (hs : t.short) : (t.strip is).short :=
  TR.short_of (TR.strip_valid is hv).1 fun x hx => by
    rw [TR.strip_pairs] at hx
    exact TR.pairs_short hs x ((List.mem_filter.1 hx).1)
theorem put_short {t : TR} {n : Key} {o : Own} (hv : t.valid) (hs : t.short) (hn : n.length ≤ 32) (ho : o ≠ noOwn) : (t.put n o).short :=
  TR.short_of (TR.put_valid hv ho).1 fun x hx => by
    have := (TR.put_pairs (n := n) (o := o) hv ho).mem_iff.1 hx
    rcases List.mem_cons.1 this with rfl | h
    · exact hn
    · exact TR.pairs_short hs x ((List.mem_filter.1 h).1)
theorem put_grown {t : TR} {n : Key} {o : Own} (hv : t.valid) (ho : o ≠ noOwn) :
    grownL ((t.strip fun p _ => decide (p = n)).pairs ++ [(n, o)]) = (t.put n o).list := by
  refine grownL_tree (TR.put_valid hv ho).1 ?_
  rw [TR.strip_pairs]
  refine (List.perm_append_singleton _ _).trans ?_
  exact (TR.put_pairs hv ho).symm

def refGet (n : Key) : List (Key × Own) → Own
  | [] => noOwn
  | x :: l => if x.1 = n then x.2 else refGet n l
theorem refGet_none {n : Key} : ∀ {l : List (Key × Own)}, (∀ x ∈ l, x.1 ≠ n) → refGet n l = noOwn
  | [], _ => rfl
  | x :: l, h => by rw [refGet, if_neg (h x (by simp)), refGet_none fun y hy => h y (by simp [hy])]
theorem refGet_mem {n : Key} : ∀ {l : List (Key × Own)}, (∃ x ∈ l, x.1 = n) → (n, refGet n l) ∈ l
  | [], h => by obtain ⟨x, hx, _⟩ := h; cases hx
  | x :: l, h => by
    rw [refGet]
    by_cases hx : x.1 = n
    · rw [if_pos hx]; subst hx; simp
    · rw [if_neg hx]
      obtain ⟨y, hy, e⟩ := h
      rcases List.mem_cons.1 hy with rfl | hy
      · exact absurd e hx
      · exact List.mem_cons_of_mem _ (refGet_mem ⟨y, hy, e⟩)
theorem get_ref {t : TR} (hv : t.valid) (n : Key) : t.get n = refGet n t.pairs := by
  by_cases h : ∃ x ∈ t.pairs, x.1 = n
  · have h1 := refGet_mem h
    exact (TR.get_pairs hv (TR.pairs_own _ h1)).2 h1
  · have h0 : ∀ x ∈ t.pairs, x.1 ≠ n := fun x hx e => h ⟨x, hx, e⟩
    rw [refGet_none h0]
    by_cases ho : t.get n = noOwn
    · exact ho
    · exact absurd rfl (h0 _ ((TR.get_pairs (n := n) (o := t.get n) hv ho).1 rfl))
theorem foldR_cases {n : Key} : ∀ (l : List (Key × Own)) (s : Own × Int), foldR n s l = s ∨ ∃ x ∈ l, foldR n s l = (x.2, (x.1.length : Int))
  | [], s => .inl rfl
  | x :: l, s => by
    have e : foldR n s (x :: l) = foldR n (if x.1 <+: n ∧ s.2 < (x.1.length : Int) then (x.2, (x.1.length : Int)) else s) l := rfl
    rw [e]
    by_cases hc : x.1 <+: n ∧ s.2 < (x.1.length : Int)
    · rw [if_pos hc]
      rcases foldR_cases l (x.2, (x.1.length : Int)) with h | ⟨y, hy, h⟩
      · exact .inr ⟨x, by simp, h⟩
      · exact .inr ⟨y, by simp [hy], h⟩
    · rw [if_neg hc]
      rcases foldR_cases l s with h | ⟨y, hy, h⟩
      · exact .inl h
      · exact .inr ⟨y, by simp [hy], h⟩
theorem find_ref {t : TR} (hv : t.valid) (q : Key) : (foldR q (noOwn, -1) t.pairs).1 = t.find q noOwn ∧ ((foldR q (noOwn, -1) t.pairs).2 < 0 ↔ t.find q noOwn = noOwn) := by
  obtain ⟨h1, h2, h3⟩ := TR.find_pairs (n := q) (a := noOwn) (m := -1) hv fun x hx => by omega
  refine ⟨h1, ?_⟩
  rw [← h1]
  constructor
  · intro h
    rw [(h3 (by omega)).1]
  · intro h
    rcases foldR_cases t.pairs (noOwn, -1) (n := q) with e | ⟨x, hx, e⟩
    · rw [e]; decide
    · rw [e] at h
      exact absurd h (TR.pairs_own x hx)
theorem foldR_take {q : Key} {l : List (Key × Own)} {i : Nat} {x : Key × Own} (h : l[i]? = some x) (s : Own × Int) :
    foldR q s (l.take (i + 1)) = if x.1 <+: q ∧ (foldR q s (l.take i)).2 < (x.1.length : Int) then (x.2, (x.1.length : Int)) else foldR q s (l.take i) := by
  obtain ⟨hi, rfl⟩ := List.getElem?_eq_some_iff.1 h
  rw [List.take_succ_eq_append_getElem hi, foldR_app]
  rfl
theorem foldR_bd {q : Key} {l : List (Key × Own)} (hl : ∀ x ∈ l, x.1.length ≤ 32) : ∀ s : Own × Int, -1 ≤ s.2 → s.2 ≤ 32 → -1 ≤ (foldR q s l).2 ∧ (foldR q s l).2 ≤ 32 := fun s h1 h2 => by
  rcases foldR_cases l s (n := q) with e | ⟨x, hx, e⟩
  · rw [e]; exact ⟨h1, h2⟩
  · rw [e]; have := hl x hx; exact ⟨by simp only; omega, by simp only; omega⟩
/-! lists bit by bit -/
theorem rootOwn_take {top : Key} {M : List (Key × Own)} {i : Nat} {x : Key × Own} (h : M[i]? = some x) : rootOwn top (M.take (i + 1)) = if x.1 = top then x.2 else rootOwn top (M.take i) := by
  obtain ⟨hi, rfl⟩ := List.getElem?_eq_some_iff.1 h
  unfold rootOwn
  rw [List.take_succ_eq_append_getElem hi, List.foldl_append]; rfl
theorem sideL_take {top : Key} {b : Bool} {M : List (Key × Own)} {i : Nat} {x : Key × Own} (h : M[i]? = some x) : sideL top b (M.take (i + 1)) = sideL top b (M.take i) ++ if x.1 ≠ top ∧ bitAt x.1 top.length = b then [x] else [] := by
  obtain ⟨hi, rfl⟩ := List.getElem?_eq_some_iff.1 h
  unfold sideL
  rw [List.take_succ_eq_append_getElem hi, List.filter_append]
  congr 1
  simp only [List.filter_cons, List.filter_nil]
  by_cases h1 : M[i].1 = top <;> by_cases h2 : bitAt M[i].1 top.length = b <;> simp [h1, h2]
theorem joinK_take {p : Key} {M : List (Key × Own)} {i : Nat} {x : Key × Own} (h : M[i]? = some x) : joinK p ((M.take (i + 1)).map Prod.fst) = lcpL (joinK p ((M.take i).map Prod.fst)) x.1 := by
  obtain ⟨hi, rfl⟩ := List.getElem?_eq_some_iff.1 h
  unfold joinK
  rw [List.take_succ_eq_append_getElem hi, List.map_append, List.foldl_append]; rfl
theorem ownedL_take {l : List ND} {i : Nat} {x : ND} (h : l[i]? = some x) : ownedL (l.take (i + 1)) = ownedL (l.take i) ++ if x.o ≠ noOwn then [⟨x.a, x.n, x.o, 1⟩] else [] := by
  obtain ⟨hi, rfl⟩ := List.getElem?_eq_some_iff.1 h
  unfold ownedL
  rw [List.take_succ_eq_append_getElem hi, List.filter_append, List.map_append]
  congr 1
  simp only [List.filter_cons, List.filter_nil]
  by_cases h1 : l[i].o = noOwn <;> simp [h1]
theorem ownedL_len (l : List ND) : (ownedL l).length ≤ l.length := by
  unfold ownedL; rw [List.length_map]; exact List.length_filter_le _ _
theorem take_len {α : Type} (l : List α) (i : Nat) : (l.take i).length ≤ l.length := by rw [List.length_take]; omega

end Go.Proofs.Ytckkmfoccefcfaa
