/- Tries: owned nets, the tree that they grow to, both checks are one. -/
import Derived.Test.YtckkmfoccefcfaaTr4
namespace Go.Proofs.Ytckkmfoccefcfaa
set_option linter.unusedVariables false
set_option linter.unusedSimpArgs false

/-! how many nets there are -/
theorem nodup_lt : ∀ (N : Nat) (l : List Nat), l.Nodup → (∀ x ∈ l, x < N) → l.length ≤ N
  | 0, l, _, h => by
    cases l with
    | nil => simp
    | cons x l => exact absurd (h x (by simp)) (by omega)
  | N + 1, l, hd, h => by
    have h1 := nodup_lt N (l.erase N) (hd.erase N) fun x hx => by
      have hm := (hd.mem_erase_iff).1 hx
      have := h x hm.2
      omega
    have h2 := List.length_erase (a := N) (l := l)
    split at h2 <;> omega
def codeK (p : Key) : Nat := 2 ^ p.length + valK p
theorem codeK_lt (p : Key) (h : p.length ≤ 32) : codeK p < 8589934592 := by
  have h1 := valK_lt p
  have h2 : 2 ^ p.length ≤ 2 ^ 32 := Nat.pow_le_pow_right (by omega) h
  unfold codeK
  omega
theorem codeK_inj {p q : Key} (h : codeK p = codeK q) : p = q := by
  have h1 := valK_lt p
  have h2 := valK_lt q
  unfold codeK at h
  have hl : p.length = q.length := by
    rcases Nat.lt_trichotomy p.length q.length with hl | hl | hl
    · have : 2 ^ (p.length + 1) ≤ 2 ^ q.length := Nat.pow_le_pow_right (by omega) hl
      rw [Nat.pow_succ] at this; omega
    · exact hl
    · have : 2 ^ (q.length + 1) ≤ 2 ^ p.length := Nat.pow_le_pow_right (by omega) hl
      rw [Nat.pow_succ] at this; omega
  rw [hl] at h
  exact valK_inj hl (by omega)
theorem map_nodup {α β : Type} {f : α → β} (hf : ∀ a b, f a = f b → a = b) : ∀ {l : List α}, l.Nodup → (l.map f).Nodup
  | [], _ => List.nodup_nil
  | x :: l, h => by
    rw [List.nodup_cons] at h
    rw [List.map_cons, List.nodup_cons]
    refine ⟨fun hx => ?_, map_nodup hf h.2⟩
    obtain ⟨y, hy, e⟩ := List.mem_map.1 hx
    rw [hf _ _ e] at hy
    exact h.1 hy
theorem keys_few {l : List Key} (hd : l.Nodup) (h : ∀ p ∈ l, p.length ≤ 32) : l.length ≤ 8589934592 := by
  have h1 := nodup_lt 8589934592 (l.map codeK) (map_nodup (fun _ _ => codeK_inj) hd) fun x hx => by
    obtain ⟨p, hp, rfl⟩ := List.mem_map.1 hx
    exact codeK_lt p (h p hp)
  simpa using h1

/-! sides are shorter -/
theorem side_pre {M : List (Key × Own)} {b : Bool} : ∀ x ∈ sideL (joinAll M) b M, joinAll M ++ [b] <+: x.1 := fun x hx => by
  obtain ⟨h1, h2, h3⟩ := sideL_mem.1 hx
  rw [← h3]; exact pre_next (joinAll_pre x h1) h2
theorem side_lt {M : List (Key × Own)} (hM : M ≠ []) (b : Bool) : (sideL (joinAll M) b M).length < M.length := by
  have hle : (sideL (joinAll M) b M).length ≤ M.length := List.length_filter_le _ _
  rcases Nat.lt_or_ge (sideL (joinAll M) b M).length M.length with h | h
  · exact h
  · exfalso
    have e : sideL (joinAll M) b M = M := by
      have := List.filter_sublist (p := fun x : Key × Own => !decide (x.1 = joinAll M) && (bitAt x.1 (joinAll M).length == b)) (l := M)
      exact this.eq_of_length (Nat.le_antisymm hle h)
    have hm : joinAll M ++ [b] <+: joinAll M := joinAll_max hM fun x hx => side_pre x (by rw [e]; exact hx)
    have := hm.length_le
    simp only [List.length_append, List.length_singleton] at this
    omega
theorem sides_le (top : Key) (M : List (Key × Own)) : (sideL top false M).length + (sideL top true M).length ≤ M.length := by
  induction M with
  | nil => simp [sideL]
  | cons x M ih =>
    unfold sideL at ih ⊢
    simp only [List.filter_cons]
    split <;> split <;> simp only [List.length_cons] <;> first
      | omega
      | (rename_i h1 h2; simp only [Bool.and_eq_true, beq_iff_eq] at h1 h2; rw [h1.2] at h2; exact absurd h2.2 (by decide))
theorem grownF_len : ∀ (n : Nat) (M : List (Key × Own)), (grownF n M).length ≤ 2 * M.length - 1
  | 0, [] => by simp [grownF]
  | 0, _ :: _ => by simp [grownF]
  | _ + 1, [] => by simp [grownF]
  | n + 1, x :: l => by
    have h1 := grownF_len n (sideL (joinAll (x :: l)) false (x :: l))
    have h2 := grownF_len n (sideL (joinAll (x :: l)) true (x :: l))
    have h3 := sides_le (joinAll (x :: l)) (x :: l)
    have h4 := side_lt (M := x :: l) (by simp) false
    have h5 := side_lt (M := x :: l) (by simp) true
    simp only [grownF, List.length_cons, List.length_append] at *
    omega
theorem joinAll_le {M : List (Key × Own)} {k : Nat} (h : ∀ x ∈ M, x.1.length ≤ k) : (joinAll M).length ≤ k := by
  cases M with
  | nil => simp [joinAll]
  | cons x M => exact Nat.le_trans (joinAll_pre (l := x :: M) x (by simp)).length_le (h x (by simp))

/-! owned nets -/
def one (x : Key × Own) : ND := ⟨addrK x.1, x.1.length, x.2, 1⟩
def ownedL (l : List ND) : List ND := (l.filter fun x => !decide (x.o = noOwn)).map fun x => ⟨x.a, x.n, x.o, 1⟩
def prs (l : List ND) : List (Key × Own) := (l.filter fun x => !decide (x.o = noOwn)).map fun x => (x.key, x.o)
theorem ownedL_prs {l : List ND} (hok : ∀ x ∈ l, x.OK) (hf : ∀ x ∈ l, x.fault = 0) : ownedL l = (prs l).map one := by
  unfold ownedL prs
  rw [List.map_map]
  refine List.map_congr_left fun x hx => ?_
  have hx := (List.mem_filter.1 hx).1
  obtain ⟨h1, h2, h3⟩ := ND.keyed (hok x hx).a0 (hok x hx).a1 (hf x hx)
  simp only [Function.comp, one, ← h2, ← h3]
theorem prs_short {l : List ND} (hok : ∀ x ∈ l, x.OK) (hf : ∀ x ∈ l, x.fault = 0) : ∀ x ∈ prs l, x.1.length ≤ 32 := by
  intro x hx
  unfold prs at hx
  obtain ⟨y, hy, rfl⟩ := List.mem_map.1 hx
  have hy := (List.mem_filter.1 hy).1
  exact (ND.keyed (hok y hy).a0 (hok y hy).a1 (hf y hy)).1
theorem prs_own {l : List ND} : ∀ x ∈ prs l, x.2 ≠ noOwn := by
  intro x hx
  unfold prs at hx
  obtain ⟨y, hy, rfl⟩ := List.mem_map.1 hx
  have := (List.mem_filter.1 hy).2
  simpa using this
theorem ownedL_nodes : ∀ {t : TR}, ownedL t.list = t.pairs.map one
  | .nil => rfl
  | .nd p o l r => by
    have e : ∀ a b : List ND, ownedL (a ++ b) = ownedL a ++ ownedL b := fun a b => by simp [ownedL]
    have e1 : ownedL [⟨addrK p, p.length, o, (((l.list ++ r.list).length + 1 : Nat) : Int)⟩] = (ownP p o).map one := by
      unfold ownedL ownP
      by_cases ho : o = noOwn <;> simp [ho, one]
    rw [TR.list_nd, TR.pairs, List.map_append, List.map_append, ← ownedL_nodes, ← ownedL_nodes, ← e1]
    conv => lhs; rw [← List.singleton_append]
    rw [e, e]
theorem prs_nodes : ∀ {t : TR}, t.short → prs t.list = t.pairs
  | .nil, _ => rfl
  | .nd p o l r, hs => by
    have e : ∀ a b : List ND, prs (a ++ b) = prs a ++ prs b := fun a b => by simp [prs]
    have e1 : prs [⟨addrK p, p.length, o, (((l.list ++ r.list).length + 1 : Nat) : Int)⟩] = ownP p o := by
      have hk : ND.key ⟨addrK p, p.length, o, (((l.list ++ r.list).length + 1 : Nat) : Int)⟩ = p := addr_key p hs.1
      unfold prs ownP
      by_cases ho : o = noOwn
      · simp [ho]
      · simp only [ho, decide_false, Bool.not_false, List.filter_cons, if_true, List.filter_nil, List.map_cons, List.map_nil, if_false]
        rw [hk]
    rw [TR.list_nd, TR.pairs, ← prs_nodes hs.2.1, ← prs_nodes hs.2.2, ← e1]
    conv => lhs; rw [← List.singleton_append]
    rw [e, e]
theorem TR.list_ok : ∀ {t : TR}, t.short → (∀ x ∈ t.pairs, x.2.size ≤ 140737488351232) → t.list.length ≤ 4611686018427387904 → ∀ x ∈ t.list, x.OK
  | .nil, _, _, _, x, h => by cases h
  | .nd p o l r, hs, ho, hz, x, h => by
    have hpo : o.size ≤ 140737488351232 := by
      by_cases e : o = noOwn
      · subst e; decide
      · exact ho (p, o) (by simp [TR.pairs, ownP_ne e])
    rw [TR.list_nd] at h hz
    have hz' := hz
    simp only [List.length_cons, List.length_append] at hz'
    rcases List.mem_cons.1 h with rfl | h
    · obtain ⟨b0, b1⟩ := addrK_bd p hs.1
      have := hs.1
      constructor <;> simp only [List.length_append] <;> omega
    · rcases List.mem_append.1 h with h | h
      · exact TR.list_ok hs.2.1 (fun x hx => ho x (by simp [TR.pairs, hx])) (by omega) x h
      · exact TR.list_ok hs.2.2 (fun x hx => ho x (by simp [TR.pairs, hx])) (by omega) x h

/-! both checks -/
def isTrie (l : List ND) (t : TR) : Prop := t.valid ∧ t.short ∧ l = t.list
theorem TR.pairs_nodup : ∀ {t : TR}, t.valid → (t.pairs.map Prod.fst).Nodup
  | .nil, _ => List.nodup_nil
  | .nd p o l r, hv => by
    obtain ⟨h1, h2, h3, h4, h5⟩ := hv
    have i1 := TR.pairs_nodup h1
    have i2 := TR.pairs_nodup h2
    have bl : ∀ x ∈ l.pairs, p ++ [false] <+: x.1 := TR.pairs_below h1 h3
    have br : ∀ x ∈ r.pairs, p ++ [true] <+: x.1 := TR.pairs_below h2 h4
    rw [TR.pairs, List.map_append, List.map_append]
    refine List.nodup_append.2 ⟨?_, List.nodup_append.2 ⟨i1, i2, ?_⟩, ?_⟩
    · unfold ownP; split <;> simp
    · intro a ha b hb e
      obtain ⟨x, hx, rfl⟩ := List.mem_map.1 ha
      obtain ⟨y, hy, rfl⟩ := List.mem_map.1 hb
      have q1 := pre_bit (bl x hx)
      have q2 := pre_bit (br y hy)
      rw [e, q2] at q1; cases q1
    · intro a ha b hb e
      obtain ⟨x, hx, rfl⟩ := List.mem_map.1 ha
      obtain ⟨rfl, _⟩ := ownP_mem hx
      rcases List.mem_append.1 hb with hb | hb
      · obtain ⟨y, hy, rfl⟩ := List.mem_map.1 hb
        exact ne_of_snoc (bl y hy) e.symm
      · obtain ⟨y, hy, rfl⟩ := List.mem_map.1 hb
        exact ne_of_snoc (br y hy) e.symm
theorem TR.short_of : ∀ {t : TR}, t.valid → (∀ x ∈ t.pairs, x.1.length ≤ 32) → t.short
  | .nil, _, _ => trivial
  | .nd p o l r, hv, h => by
    obtain ⟨x, hx⟩ := TR.pairs_ne hv (by simp)
    refine ⟨Nat.le_trans (TR.root_pre hv x hx).length_le (h x hx), TR.short_of hv.1 fun x hx => h x (by simp [TR.pairs, hx]), TR.short_of hv.2.1 fun x hx => h x (by simp [TR.pairs, hx])⟩
theorem TR.pairs_short : ∀ {t : TR}, t.short → ∀ x ∈ t.pairs, x.1.length ≤ 32
  | .nil, _, x, h => by cases h
  | .nd p o l r, hs, x, h => by
    simp only [TR.pairs, List.mem_append] at h
    rcases h with h | h | h
    · obtain ⟨rfl, _⟩ := ownP_mem h; exact hs.1
    · exact TR.pairs_short hs.2.1 x h
    · exact TR.pairs_short hs.2.2 x h
/-- the list that owned nets grow to -/
def grownL (K : List (Key × Own)) : List ND := (grownF K.length K).map toND
theorem grownL_tree {t : TR} {K : List (Key × Own)} (hv : t.valid) (hp : K.Perm t.pairs) : grownL K = t.list := by
  unfold grownL; rw [grownF_tree hv hp (Nat.le_refl _)]; rfl
theorem isTrie_grown {l : List ND} (hok : ∀ x ∈ l, x.OK) (hf : ∀ x ∈ l, x.fault = 0) : (∃ t, isTrie l t) ↔ ((prs l).map Prod.fst).Nodup ∧ grownL (prs l) = l := by
  constructor
  · rintro ⟨t, hv, hs, rfl⟩
    rw [prs_nodes hs]
    exact ⟨TR.pairs_nodup hv, grownL_tree hv (List.Perm.refl _)⟩
  · rintro ⟨hd, hg⟩
    obtain ⟨t, hv, hp⟩ := tree_of _ (prs l) (Nat.le_refl _) hd prs_own
    refine ⟨t, hv, TR.short_of hv fun x hx => prs_short hok hf x (hp.mem_iff.2 hx), ?_⟩
    rw [← hg]; exact grownL_tree hv hp
theorem isTrie_grow {l : List ND} (hok : ∀ x ∈ l, x.OK) (hne : l ≠ []) : (∃ t, isTrie l t) ↔ ∃ t, growF l.length l = some (t, []) := by
  constructor
  · rintro ⟨t, hv, hs, rfl⟩
    have := growF_full (t := t) (n := t.list.length) (rest := []) ⟨hv, hs, fun e => by subst e; exact hne rfl⟩ (Nat.le_refl _)
    rw [List.append_nil] at this
    exact ⟨t, this⟩
  · rintro ⟨t, h⟩
    obtain ⟨⟨hv, hs, _⟩, hl⟩ := growF_sound hok h
    exact ⟨t, hv, hs, by simpa using hl⟩
end Go.Proofs.Ytckkmfoccefcfaa
