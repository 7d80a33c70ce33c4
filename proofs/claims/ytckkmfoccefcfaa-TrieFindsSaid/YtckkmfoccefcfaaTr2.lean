/- Tries over lists of bits: putting, stripping, finding. -/
import Derived.Test.YtckkmfoccefcfaaTr1
namespace Go.Proofs.Ytckkmfoccefcfaa
set_option linter.unusedVariables false
set_option linter.unusedSimpArgs false

/-! putting -/
def TR.put : TR → Key → Own → TR
  | .nil, n, o => .nd n o .nil .nil
  | .nd p q l r, n, o =>
    if p = n then .nd n o l r
    else if p <+: n then (if bitAt n p.length = true then .nd p q l (r.put n o) else .nd p q (l.put n o) r)
    else if n <+: p then (if bitAt p n.length = true then .nd n o .nil (.nd p q l r) else .nd n o (.nd p q l r) .nil)
    else (if bitAt n (lcpL p n).length = true then .nd (lcpL p n) noOwn (.nd p q l r) (.nd n o .nil .nil) else .nd (lcpL p n) noOwn (.nd n o .nil .nil) (.nd p q l r))
theorem TR.put_ne : ∀ (t : TR) (n : Key) (o : Own), t.put n o ≠ .nil
  | .nil, n, o => by simp [TR.put]
  | .nd p q l r, n, o => by
    rw [TR.put]
    split
    · simp
    · split
      · split <;> simp
      · split
        · split <;> simp
        · split <;> simp
theorem fork_bits {p n : Key} (h1 : ¬ p <+: n) (h2 : ¬ n <+: p) : lcpL p n ++ [bitAt p (lcpL p n).length] <+: p ∧ lcpL p n ++ [bitAt n (lcpL p n).length] <+: n ∧ bitAt p (lcpL p n).length = !bitAt n (lcpL p n).length := by
  have a1 := pre_next (lcpL_left p n) (fun e => h1 (by have h := lcpL_right p n; rw [← e] at h; exact h))
  have a2 := pre_next (lcpL_right p n) (fun e => h2 (by have h := lcpL_left p n; rw [← e] at h; exact h))
  refine ⟨a1, a2, ?_⟩
  cases hb : bitAt p (lcpL p n).length <;> cases hc : bitAt n (lcpL p n).length <;> try rfl
  all_goals
    exfalso
    rw [hb] at a1
    rw [hc] at a2
    have := (lcpL_max a1 a2).length_le
    simp only [List.length_append, List.length_singleton] at this
    omega
theorem TR.put_valid : ∀ {t : TR} {n : Key} {o : Own}, t.valid → o ≠ noOwn → (t.put n o).valid ∧ ∀ q, t.under q → q <+: n → (t.put n o).under q
  | .nil, n, o, _, ho => ⟨⟨trivial, trivial, trivial, trivial, fun e => absurd e ho⟩, fun q _ h => h⟩
  | .nd p q l r, n, o, hv, ho => by
    have hv' := hv
    obtain ⟨h1, h2, h3, h4, h5⟩ := hv
    rw [TR.put]
    split
    · rename_i e; subst e
      exact ⟨⟨h1, h2, h3, h4, fun e => absurd e ho⟩, fun z hz _ => hz⟩
    · rename_i hne
      split
      · rename_i hpn
        have hx := pre_next hpn (fun e => hne e.symm)
        split
        · rename_i hb
          rw [hb] at hx
          obtain ⟨k1, k2⟩ := TR.put_valid (n := n) h2 ho
          exact ⟨⟨h1, k1, h3, k2 _ h4 hx, fun e => ⟨(h5 e).1, TR.put_ne _ _ _⟩⟩, fun z hz _ => hz⟩
        · rename_i hb
          have hb' : bitAt n p.length = false := by simpa using hb
          rw [hb'] at hx
          obtain ⟨k1, k2⟩ := TR.put_valid (n := n) h1 ho
          exact ⟨⟨k1, h2, k2 _ h3 hx, h4, fun e => ⟨TR.put_ne _ _ _, (h5 e).2⟩⟩, fun z hz _ => hz⟩
      · rename_i hpn
        split
        · rename_i hnp
          have hx := pre_next hnp (fun e => hne e)
          split
          · rename_i hb
            rw [hb] at hx
            exact ⟨⟨trivial, hv', trivial, hx, fun e => absurd e ho⟩, fun z hz hzn => hzn⟩
          · rename_i hb
            have hb' : bitAt p n.length = false := by simpa using hb
            rw [hb'] at hx
            exact ⟨⟨hv', trivial, hx, trivial, fun e => absurd e ho⟩, fun z hz hzn => hzn⟩
        · rename_i hnp
          obtain ⟨f1, f2, f3⟩ := fork_bits hpn hnp
          have leaf : (TR.nd n o .nil .nil).valid := ⟨trivial, trivial, trivial, trivial, fun e => absurd e ho⟩
          split
          · rename_i hb
            rw [hb] at f2 f3
            rw [f3] at f1
            exact ⟨⟨hv', leaf, f1, f2, fun _ => ⟨by simp, by simp⟩⟩, fun z hz hzn => lcpL_max hz hzn⟩
          · rename_i hb
            have hb' : bitAt n (lcpL p n).length = false := by simpa using hb
            rw [hb'] at f2 f3
            rw [f3] at f1
            exact ⟨⟨leaf, hv', f2, f1, fun _ => ⟨by simp, by simp⟩⟩, fun z hz hzn => lcpL_max hz hzn⟩
def notK (n : Key) (l : List (Key × Own)) : List (Key × Own) := l.filter fun x => !decide (x.1 = n)
theorem notK_app (n : Key) (a b : List (Key × Own)) : notK n (a ++ b) = notK n a ++ notK n b := List.filter_append ..
theorem notK_all {n : Key} {l : List (Key × Own)} (h : ∀ x ∈ l, x.1 ≠ n) : notK n l = l := List.filter_eq_self.2 fun x hx => by simp [h x hx]
theorem ownP_ne {p : Key} {o : Own} (h : o ≠ noOwn) : ownP p o = [(p, o)] := by unfold ownP; rw [if_neg h]
theorem ownP_no (p : Key) : ownP p noOwn = [] := by unfold ownP; rw [if_pos rfl]
theorem TR.put_pairs : ∀ {t : TR} {n : Key} {o : Own}, t.valid → o ≠ noOwn → (t.put n o).pairs.Perm ((n, o) :: notK n t.pairs)
  | .nil, n, o, _, ho => by simp [TR.put, TR.pairs, ownP_ne ho, notK]
  | .nd p q l r, n, o, hv, ho => by
    have hroot := TR.root_pre hv
    obtain ⟨h1, h2, h3, h4, h5⟩ := hv
    have bl : ∀ x ∈ l.pairs, p ++ [false] <+: x.1 := TR.pairs_below h1 h3
    have br : ∀ x ∈ r.pairs, p ++ [true] <+: x.1 := TR.pairs_below h2 h4
    rw [TR.put]
    split
    · rename_i e; subst e
      have e1 : notK p (ownP p q) = [] := by unfold notK ownP; split <;> simp
      rw [TR.pairs, TR.pairs, notK_app, notK_app, e1, notK_all fun x hx => ne_of_snoc (bl x hx), notK_all fun x hx => ne_of_snoc (br x hx), ownP_ne ho]
      exact List.Perm.refl _
    · rename_i hne
      have e0 : notK n (ownP p q) = ownP p q := notK_all fun x hx => by obtain ⟨rfl, _⟩ := ownP_mem hx; exact hne
      split
      · rename_i hpn
        have hx := pre_next hpn (fun e => hne e.symm)
        split
        · rename_i hb
          rw [hb] at hx
          have el : notK n l.pairs = l.pairs := notK_all fun x hx2 e => by
            have := pre_bit (bl x hx2)
            rw [e, pre_bit hx] at this; cases this
          rw [TR.pairs, TR.pairs, notK_app, notK_app, e0, el]
          have ih := TR.put_pairs (n := n) (o := o) h2 ho
          refine ((List.Perm.append_left _ (List.Perm.append_left _ ih))).trans ?_
          rw [← List.append_assoc, ← List.append_assoc]
          exact List.perm_middle
        · rename_i hb
          have hb' : bitAt n p.length = false := by simpa using hb
          rw [hb'] at hx
          have er : notK n r.pairs = r.pairs := notK_all fun x hx2 e => by
            have := pre_bit (br x hx2)
            rw [e, pre_bit hx] at this; cases this
          rw [TR.pairs, TR.pairs, notK_app, notK_app, e0, er]
          have ih := TR.put_pairs (n := n) (o := o) h1 ho
          refine ((List.Perm.append_left _ (List.Perm.append_right _ ih))).trans ?_
          rw [List.cons_append]
          exact List.perm_middle
      · rename_i hpn
        have hall : notK n (TR.nd p q l r).pairs = (TR.nd p q l r).pairs := notK_all fun x hx e => hpn (by rw [← e]; exact hroot x hx)
        split
        · split
          · rw [hall, TR.pairs, ownP_ne ho]
            simp [TR.pairs]
          · rw [hall, TR.pairs, ownP_ne ho]
            simp [TR.pairs]
        · split
          · rw [hall, TR.pairs, ownP_no]
            simp only [List.nil_append]
            rw [show (TR.nd n o .nil .nil).pairs = [(n, o)] by simp [TR.pairs, ownP_ne ho]]
            exact List.perm_append_singleton _ _
          · rw [hall, TR.pairs, ownP_no]
            simp only [List.nil_append]
            rw [show (TR.nd n o .nil .nil).pairs = [(n, o)] by simp [TR.pairs, ownP_ne ho]]
            exact List.Perm.refl _

/-! stripping -/
def TR.isNil : TR → Bool
  | .nil => true
  | _ => false
theorem TR.isNil_iff {t : TR} : t.isNil = true ↔ t = .nil := by cases t <;> simp [TR.isNil]
def TR.pick (p : Key) (o : Own) (l r : TR) : TR := if o ≠ noOwn ∨ (l.isNil = false ∧ r.isNil = false) then .nd p o l r else if l.isNil = false then l else r
def TR.strip (is : Key → Own → Bool) : TR → TR
  | .nil => .nil
  | .nd p o l r => TR.pick p (if is p o = true then noOwn else o) (l.strip is) (r.strip is)
theorem TR.under_up {t : TR} {p : Key} {b : Bool} {q : Key} (h : t.under (p ++ [b])) (k : q <+: p) : t.under q := by
  cases t with
  | nil => trivial
  | nd z o l r => exact k.trans (pre_of_snoc h)
theorem TR.strip_valid (is : Key → Own → Bool) : ∀ {t : TR}, t.valid → (t.strip is).valid ∧ ∀ q, t.under q → (t.strip is).under q
  | .nil, _ => ⟨trivial, fun _ _ => trivial⟩
  | .nd p o l r, hv => by
    obtain ⟨h1, h2, h3, h4, h5⟩ := hv
    obtain ⟨k1, k2⟩ := TR.strip_valid is h1
    obtain ⟨k3, k4⟩ := TR.strip_valid is h2
    rw [TR.strip]
    generalize (if is p o = true then noOwn else o) = o'
    unfold TR.pick
    split
    · rename_i hc
      refine ⟨⟨k1, k3, k2 _ h3, k4 _ h4, fun e => ?_⟩, fun q hq => hq⟩
      rcases hc with hc | ⟨a, b⟩
      · exact absurd e hc
      · exact ⟨fun e => by (rw [TR.isNil_iff.2 e] at a; cases a), fun e => by (rw [TR.isNil_iff.2 e] at b; cases b)⟩
    · split
      · exact ⟨k1, fun q hq => TR.under_up (k2 _ h3) hq⟩
      · exact ⟨k3, fun q hq => TR.under_up (k4 _ h4) hq⟩
theorem TR.strip_pairs (is : Key → Own → Bool) : ∀ (t : TR), (t.strip is).pairs = t.pairs.filter fun x => !is x.1 x.2
  | .nil => rfl
  | .nd p o l r => by
    have i1 := TR.strip_pairs is l
    have i2 := TR.strip_pairs is r
    have e0 : (ownP p o).filter (fun x => !is x.1 x.2) = ownP p (if is p o = true then noOwn else o) := by
      unfold ownP
      by_cases ho : o = noOwn
      · subst ho; simp
      · rw [if_neg ho]
        by_cases h : is p o = true
        · simp [h]
        · have h' : is p o = false := by simpa using h
          simp [h', ho]
    rw [TR.strip, TR.pairs, List.filter_append, List.filter_append, e0, ← i1, ← i2]
    generalize (if is p o = true then noOwn else o) = o'
    unfold TR.pick
    split
    · rfl
    · rename_i hc
      have ho : o' = noOwn := by
        by_cases h : o' = noOwn
        · exact h
        · exact absurd (.inl h) hc
      rw [ho, ownP_no]
      split
      · rename_i hl
        have hr : (r.strip is).isNil = true := by
          cases h : (r.strip is).isNil
          · exact absurd (.inr ⟨hl, h⟩) hc
          · rfl
        rw [TR.isNil_iff.1 hr]
        simp [TR.pairs]
      · rename_i hl
        have hl' : (l.strip is).isNil = true := by simpa using hl
        rw [TR.isNil_iff.1 hl']
        simp [TR.pairs]

/-! getting and finding -/
def TR.get : TR → Key → Own
  | .nil, _ => noOwn
  | .nd p o l r, n => if p = n then o else if p <+: n then (if bitAt n p.length = true then r.get n else l.get n) else noOwn
theorem TR.get_pairs : ∀ {t : TR} {n : Key} {o : Own}, t.valid → o ≠ noOwn → (t.get n = o ↔ (n, o) ∈ t.pairs)
  | .nil, n, o, _, ho => by simp only [TR.get, TR.pairs]; exact ⟨fun h => absurd h.symm ho, fun h => by cases h⟩
  | .nd p q l r, n, o, hv, ho => by
    have hroot := TR.root_pre hv
    obtain ⟨h1, h2, h3, h4, h5⟩ := hv
    rw [TR.get]
    split
    · rename_i e; subst e
      constructor
      · rintro rfl; simp [TR.pairs, ownP_ne ho]
      · intro h
        simp only [TR.pairs, List.mem_append] at h
        rcases h with h | h | h
        · obtain ⟨e, _⟩ := ownP_mem h; exact (congrArg Prod.snd e).symm
        · exact absurd rfl (ne_of_snoc (TR.pairs_below h1 h3 _ h))
        · exact absurd rfl (ne_of_snoc (TR.pairs_below h2 h4 _ h))
    · rename_i hne
      have e0 : (n, o) ∉ ownP p q := fun h => by obtain ⟨e, _⟩ := ownP_mem h; exact hne (congrArg Prod.fst e).symm
      split
      · rename_i hpn
        have hx := pre_next hpn (fun e => hne e.symm)
        split
        · rename_i hb
          rw [hb] at hx
          rw [TR.get_pairs h2 ho]
          simp only [TR.pairs, List.mem_append]
          refine ⟨fun h => .inr (.inr h), fun h => ?_⟩
          rcases h with h | h | h
          · exact absurd h e0
          · have := pre_bit (TR.pairs_below h1 h3 _ h)
            rw [pre_bit hx] at this; cases this
          · exact h
        · rename_i hb
          have hb' : bitAt n p.length = false := by simpa using hb
          rw [hb'] at hx
          rw [TR.get_pairs h1 ho]
          simp only [TR.pairs, List.mem_append]
          refine ⟨fun h => .inr (.inl h), fun h => ?_⟩
          rcases h with h | h | h
          · exact absurd h e0
          · exact h
          · have := pre_bit (TR.pairs_below h2 h4 _ h)
            rw [pre_bit hx] at this; cases this
      · rename_i hpn
        exact ⟨fun h => absurd h.symm ho, fun h => absurd (hroot _ h) hpn⟩
def TR.find : TR → Key → Own → Own
  | .nil, _, a => a
  | .nd p o l r, n, a => if p <+: n then (if p = n then (if o ≠ noOwn then o else a) else if bitAt n p.length = true then r.find n (if o ≠ noOwn then o else a) else l.find n (if o ≠ noOwn then o else a)) else a
/-- what the reference keeps: the owner and the length of the longest that has it -/
def foldR (n : Key) (s : Own × Int) (l : List (Key × Own)) : Own × Int := l.foldl (fun s x => if x.1 <+: n ∧ s.2 < (x.1.length : Int) then (x.2, (x.1.length : Int)) else s) s
theorem foldR_app (n : Key) (s : Own × Int) (a b : List (Key × Own)) : foldR n s (a ++ b) = foldR n (foldR n s a) b := List.foldl_append ..
theorem foldR_none {n : Key} : ∀ {l : List (Key × Own)} {s : Own × Int}, (∀ x ∈ l, ¬ x.1 <+: n) → foldR n s l = s
  | [], s, _ => rfl
  | x :: l, s, h => by
    unfold foldR
    rw [List.foldl_cons, if_neg (fun hh => h x (by simp) hh.1)]
    exact foldR_none (l := l) fun y hy => h y (by simp [hy])
theorem TR.find_pairs : ∀ {t : TR} {n : Key} {a : Own} {m : Int}, t.valid → (∀ x ∈ t.pairs, m < (x.1.length : Int)) → (foldR n (a, m) t.pairs).1 = t.find n a ∧ (m ≤ (foldR n (a, m) t.pairs).2 ∧ ((foldR n (a, m) t.pairs).2 = m → foldR n (a, m) t.pairs = (a, m) ∧ ∀ x ∈ t.pairs, ¬ x.1 <+: n))
  | .nil, n, a, m, _, _ => ⟨rfl, Int.le_refl _, fun _ => ⟨rfl, fun x hx => by cases hx⟩⟩
  | .nd p o l r, n, a, m, hv, hm => by
    have hroot := TR.root_pre hv
    obtain ⟨h1, h2, h3, h4, h5⟩ := hv
    have bl : ∀ x ∈ l.pairs, p ++ [false] <+: x.1 := TR.pairs_below h1 h3
    have br : ∀ x ∈ r.pairs, p ++ [true] <+: x.1 := TR.pairs_below h2 h4
    rw [TR.find]
    by_cases hpn : p <+: n
    · rw [if_pos hpn]
      have e0 : foldR n (a, m) (ownP p o) = if o ≠ noOwn then (o, (p.length : Int)) else (a, m) := by
        by_cases ho : o = noOwn
        · rw [ho, ownP_no, if_neg (by simp)]; rfl
        · rw [ownP_ne ho, if_pos ho]
          have : m < (p.length : Int) := hm (p, o) (by simp [TR.pairs, ownP_ne ho])
          simp [foldR, hpn, this]
      obtain ⟨a', m', hs, ha', hm'⟩ : ∃ a' m', (if o ≠ noOwn then (o, (p.length : Int)) else (a, m)) = (a', m') ∧ a' = (if o ≠ noOwn then o else a) ∧ (m' = if o ≠ noOwn then (p.length : Int) else m) := by
        by_cases ho : o = noOwn
        · exact ⟨a, m, by simp [ho], by simp [ho], by simp [ho]⟩
        · exact ⟨o, p.length, by simp [ho], by simp [ho], by simp [ho]⟩
      rw [TR.pairs, foldR_app, e0, hs, ← ha']
      have hlenl : ∀ x ∈ l.pairs, m' < (x.1.length : Int) := fun x hx => by
        have h6 := hm x (by simp [TR.pairs, hx])
        have h7 := (bl x hx).length_le
        simp at h7
        rw [hm']; split <;> omega
      have hlenr : ∀ x ∈ r.pairs, m' < (x.1.length : Int) := fun x hx => by
        have h6 := hm x (by simp [TR.pairs, hx])
        have h7 := (br x hx).length_le
        simp at h7
        rw [hm']; split <;> omega
      have hmm : m ≤ m' ∧ (m' = m → o = noOwn) := by
        by_cases ho : o = noOwn
        · rw [hm', if_neg (by simp [ho])]; exact ⟨Int.le_refl _, fun _ => ho⟩
        · have : m < (p.length : Int) := hm (p, o) (by simp [TR.pairs, ownP_ne ho])
          rw [hm', if_pos ho]; exact ⟨by omega, fun e => by omega⟩
      have done : ∀ s : Own × Int, m' ≤ s.2 → (s.2 = m' → s = (a', m') ∧ ∀ x ∈ l.pairs ++ r.pairs, ¬ x.1 <+: n) → m ≤ s.2 ∧ (s.2 = m → s = (a, m) ∧ ∀ x ∈ ownP p o ++ (l.pairs ++ r.pairs), ¬ x.1 <+: n) := fun s g1 g2 => by
        refine ⟨by omega, fun e => ?_⟩
        have em : m' = m := by omega
        have ho := hmm.2 em
        obtain ⟨q1, q2⟩ := g2 (by omega)
        refine ⟨?_, ?_⟩
        · rw [q1, ha', em, if_neg (by simp [ho])]
        · rw [ho, ownP_no]; exact q2
      by_cases hnp : p = n
      · subst hnp
        rw [if_pos rfl, foldR_app]
        have n1 : ∀ x ∈ l.pairs, ¬ x.1 <+: p := fun x hx h => by
          have a1 := (bl x hx).length_le; have a2 := h.length_le; simp at a1; omega
        have n2 : ∀ x ∈ r.pairs, ¬ x.1 <+: p := fun x hx h => by
          have a1 := (br x hx).length_le; have a2 := h.length_le; simp at a1; omega
        rw [foldR_none n1, foldR_none n2]
        exact ⟨rfl, done _ (Int.le_refl _) fun _ => ⟨rfl, fun x hx => by
          rcases List.mem_append.1 hx with hx | hx
          · exact n1 x hx
          · exact n2 x hx⟩⟩
      · rw [if_neg hnp]
        have hx := pre_next hpn (fun e => hnp e.symm)
        rw [foldR_app]
        cases hb : bitAt n p.length with
        | true =>
          rw [hb] at hx
          have n1 : ∀ x ∈ l.pairs, ¬ x.1 <+: n := fun x hx2 h => by
            have := pre_bit ((bl x hx2).trans h)
            rw [pre_bit hx] at this; cases this
          rw [foldR_none n1, if_pos rfl]
          obtain ⟨k1, k2, k3⟩ := TR.find_pairs (n := n) (a := a') (m := m') h2 hlenr
          exact ⟨k1, done _ k2 fun e => ⟨(k3 e).1, fun x hx => by
            rcases List.mem_append.1 hx with hx | hx
            · exact n1 x hx
            · exact (k3 e).2 x hx⟩⟩
        | false =>
          rw [hb] at hx
          have n2 : ∀ x ∈ r.pairs, ¬ x.1 <+: n := fun x hx2 h => by
            have := pre_bit ((br x hx2).trans h)
            rw [pre_bit hx] at this; cases this
          rw [foldR_none n2, if_neg (by simp)]
          obtain ⟨k1, k2, k3⟩ := TR.find_pairs (n := n) (a := a') (m := m') h1 hlenl
          exact ⟨k1, done _ k2 fun e => ⟨(k3 e).1, fun x hx => by
            rcases List.mem_append.1 hx with hx | hx
            · exact (k3 e).2 x hx
            · exact n2 x hx⟩⟩
    · rw [if_neg hpn]
      have n1 : ∀ x ∈ (TR.nd p o l r).pairs, ¬ x.1 <+: n := fun x hx h => hpn ((hroot x hx).trans h)
      rw [foldR_none n1]
      exact ⟨rfl, Int.le_refl _, fun _ => ⟨rfl, n1⟩⟩
end Go.Proofs.Ytckkmfoccefcfaa
