/- Tries over lists of bits: what is a tree, the tree of a list of owned nets, putting, stripping, finding. Tries over lists of bits: putting, stripping, finding. -/
import Derived.Test.YtbjdjclkbjpebaaGreatDoorSMa4
namespace Go.Proofs.YtbjdjclkbjpebaaGreatDoor
set_option linter.unusedVariables false
set_option linter.unusedSimpArgs false
abbrev Key := List Bool
abbrev Own := ByteArray
abbrev noOwn : ByteArray := ⟨#[]⟩
def zbK (k : Key) (i : Nat) : Bool := k.getD i false
theorem pre_antisymm {a b : Key} (h : a <+: b) (k : b <+: a) : a = b := h.eq_of_length (Nat.le_antisymm h.length_le k.length_le)
theorem pre_total {a b c : Key} (h : a <+: c) (k : b <+: c) : a <+: b ∨ b <+: a := List.prefix_or_prefix_of_prefix h k
theorem zcD {p k : Key} (h : p <+: k) (hne : k ≠ p) : p ++ [zbK k p.length] <+: k := by
 obtain ⟨t, rfl⟩ := h
 cases t with
 | nil => simp at hne
 | cons b t =>
  refine ⟨t, ?_⟩
  simp [zbK]
theorem zda {p k : Key} {b : Bool} (h : p ++ [b] <+: k) : zbK k p.length = b := by
 obtain ⟨t, rfl⟩ := h
 simp [zbK]
theorem zdT {p k : Key} {b : Bool} (h : p ++ [b] <+: k) : p <+: k := List.IsPrefix.trans (List.prefix_append _ _) h
theorem zdG {p k : Key} {b : Bool} (h : p ++ [b] <+: k) : k ≠ p := fun e => by
 have := h.length_le
 rw [e] at this
 simp only [List.length_append, List.length_singleton] at this
 omega
theorem pre_part {p z a b : Key} (ha : p ++ [false] <+: a) (hb : p ++ [true] <+: b) (h1 : z <+: a) (h2 : z <+: b) : z <+: p := by
 rcases pre_total h1 ha with h | h
 ·rcases pre_total h2 hb with k | k
  ·by_cases hl : z.length ≤ p.length
   ·have := List.prefix_of_prefix_length_le h1 (zdT ha) hl
    exact this
   ·have e1 : z = p ++ [false] := h.eq_of_length (by have := h.length_le; simp at this ⊢; omega)
    have e2 : z = p ++ [true] := k.eq_of_length (by have := k.length_le; simp at this ⊢; omega)
    rw [e1] at e2; simp at e2
  ·have := zda (k.trans h1)
   rw [zda ha] at this; cases this
 ·have := zda (h.trans h2)
  rw [zda hb] at this; cases this
def lcpL : Key → Key → Key
 | a :: l, b :: r => if a = b then a :: lcpL l r else []
 | _, _ => []
theorem zdc : ∀ l r : Key, lcpL l r <+: l
 | [], r => by cases r <;> simp [lcpL]
 | a :: l, [] => by simp [lcpL]
 | a :: l, b :: r => by
  simp only [lcpL]
  split
  ·exact List.cons_prefix_cons.2 ⟨rfl, zdc l r⟩
  ·exact List.nil_prefix
theorem zcY : ∀ l r : Key, lcpL l r <+: r
 | [], r => by cases r <;> simp [lcpL]
 | a :: l, [] => by simp [lcpL]
 | a :: l, b :: r => by
  simp only [lcpL]
  split
  ·rename_i h; subst h; exact List.cons_prefix_cons.2 ⟨rfl, zcY l r⟩
  ·exact List.nil_prefix
theorem zex : ∀ {p l r : Key}, p <+: l → p <+: r → p <+: lcpL l r
 | [], l, r, _, _ => List.nil_prefix
 | x :: p, [], r, h, _ => by have := h.length_le; simp at this
 | x :: p, a :: l, [], _, h => by have := h.length_le; simp at this
 | x :: p, a :: l, b :: r, h, k => by
  obtain ⟨rfl, h'⟩ := List.cons_prefix_cons.1 h
  obtain ⟨rfl, k'⟩ := List.cons_prefix_cons.1 k
  simp only [lcpL, if_true]
  exact List.cons_prefix_cons.2 ⟨rfl, zex h' k'⟩
def zgY (p : Key) (l : List Key) : Key := l.foldl lcpL p
theorem zfL : ∀ (l : List Key) (p : Key), zgY p l <+: p
 | [], p => List.prefix_refl _
 | q :: l, p => (zfL l (lcpL p q)).trans (zdc p q)
theorem joinK_mem : ∀ (l : List Key) (p : Key), ∀ q ∈ l, zgY p l <+: q
 | [], p, q, h => by cases h
 | x :: l, p, q, h => by
  rcases List.mem_cons.1 h with rfl | h
  ·exact (zfL l (lcpL p q)).trans (zcY p q)
  ·exact joinK_mem l _ q h
theorem joinK_max : ∀ {l : List Key} {p x : Key}, x <+: p → (∀ q ∈ l, x <+: q) → x <+: zgY p l
 | [], p, x, h, _ => h
 | q :: l, p, x, h, k => joinK_max (l := l) (zex h (k q (by simp))) fun r hr => k r (by simp [hr])
def zaT : List (Key × Own) → Key
 | [] => []
 | x :: l => zgY x.1 ((x :: l).map Prod.fst)
theorem zdW {l : List (Key × Own)} : ∀ x ∈ l, zaT l <+: x.1 := by
 intro x hx
 cases l with
 | nil => cases hx
 | cons y l => exact joinK_mem _ _ _ (List.mem_map.2 ⟨x, hx, rfl⟩)
theorem zgZ {l : List (Key × Own)} {z : Key} (hne : l ≠ []) (h : ∀ x ∈ l, z <+: x.1) : z <+: zaT l := by
 cases l with
 | nil => exact absurd rfl hne
 | cons y l =>
  refine joinK_max (h y (by simp)) fun q hq => ?_
  obtain ⟨x, hx, rfl⟩ := List.mem_map.1 hq
  exact h x hx
inductive TR where
 | nil
 | nd (p : Key) (o : Own) (l r : TR)
def TR.under (q : Key) : TR → Prop
 | .nil => True
 | .nd p _ _ _ => q <+: p
def TR.valid : TR → Prop
 | .nil => True
 | .nd p o l r => l.valid ∧ r.valid ∧ l.under (p ++ [false]) ∧ r.under (p ++ [true]) ∧ (o = noOwn → l ≠ .nil ∧ r ≠ .nil)
def ownP (p : Key) (o : Own) : List (Key × Own) := if o = noOwn then [] else [(p, o)]
def TR.pairs : TR → List (Key × Own)
 | .nil => []
 | .nd p o l r => ownP p o ++ (l.pairs ++ r.pairs)
abbrev Nd := Key × Own × Nat
def TR.nodes : TR → List Nd
 | .nil => []
 | .nd p o l r => (p, o, 1 + (l.nodes ++ r.nodes).length) :: (l.nodes ++ r.nodes)
theorem zgf {p : Key} {o : Own} {x : Key × Own} (h : x ∈ ownP p o) : x = (p, o) ∧ o ≠ noOwn := by
 unfold ownP at h
 split at h
 ·cases h
 ·exact ⟨by simpa using h, by assumption⟩
theorem TR.pairs_below : ∀ {t : TR} {q : Key}, t.valid → t.under q → ∀ x ∈ t.pairs, q <+: x.1
 | .nil, q, _, _, x, h => by cases h
 | .nd p o l r, q, hv, hb, x, h => by
  obtain ⟨h1, h2, h3, h4, h5⟩ := hv
  simp only [TR.pairs, List.mem_append] at h
  rcases h with h | h | h
  ·obtain ⟨rfl, _⟩ := zgf h; exact hb
  ·exact List.IsPrefix.trans hb (zdT (TR.pairs_below h1 h3 x h))
  ·exact List.IsPrefix.trans hb (zdT (TR.pairs_below h2 h4 x h))
theorem TR.pairs_ne : ∀ {t : TR}, t.valid → t ≠ .nil → ∃ x, x ∈ t.pairs
 | .nil, _, h => absurd rfl h
 | .nd p o l r, hv, _ => by
  obtain ⟨h1, h2, h3, h4, h5⟩ := hv
  by_cases ho : o = noOwn
  ·obtain ⟨x, hx⟩ := TR.pairs_ne h1 (h5 ho).1
   exact ⟨x, by simp [TR.pairs, hx]⟩
  ·exact ⟨(p, o), by simp [TR.pairs, ownP, ho]⟩
theorem TR.root_max {p : Key} {o : Own} {l r : TR} {z : Key} (hv : (TR.nd p o l r).valid) (h : ∀ x ∈ (TR.nd p o l r).pairs, z <+: x.1) : z <+: p := by
 obtain ⟨h1, h2, h3, h4, h5⟩ := hv
 by_cases ho : o = noOwn
 ·obtain ⟨x, hx⟩ := TR.pairs_ne h1 (h5 ho).1
  obtain ⟨y, hy⟩ := TR.pairs_ne h2 (h5 ho).2
  exact pre_part (TR.pairs_below h1 h3 x hx) (TR.pairs_below h2 h4 y hy) (h x (by simp [TR.pairs, hx])) (h y (by simp [TR.pairs, hy]))
 ·exact h (p, o) (by simp [TR.pairs, ownP, ho])
theorem TR.root_pre {p : Key} {o : Own} {l r : TR} (hv : (TR.nd p o l r).valid) : ∀ x ∈ (TR.nd p o l r).pairs, p <+: x.1 := TR.pairs_below hv (List.prefix_refl _)
def zdx (top : Key) (l : List (Key × Own)) : Own := l.foldl (fun o x => if x.1 = top then x.2 else o) noOwn
theorem zfE {top : Key} {o : Own} : ∀ (l : List (Key × Own)) (a : Own), (∀ x ∈ l, x.1 = top → x.2 = o) → (a = o ∨ ∃ x ∈ l, x.1 = top) → l.foldl (fun o x => if x.1 = top then x.2 else o) a = o
 | [], a, _, h => by
  rcases h with h | ⟨x, hx, _⟩
  ·exact h
  ·cases hx
 | y :: l, a, h, k => by
  rw [List.foldl_cons]
  refine zfE l _ (fun x hx => h x (by simp [hx])) ?_
  by_cases hy : y.1 = top
  ·rw [if_pos hy]; exact .inl (h y (by simp) hy)
  ·rw [if_neg hy]
   rcases k with k | ⟨x, hx, hxt⟩
   ·exact .inl k
   ·rcases List.mem_cons.1 hx with rfl | hx
    ·exact absurd hxt hy
    ·exact .inr ⟨x, hx, hxt⟩
def zaS (top : Key) (b : Bool) (l : List (Key × Own)) : List (Key × Own) := l.filter fun x => !decide (x.1 = top) && (zbK x.1 top.length == b)
theorem zgD {top : Key} {b : Bool} {l : List (Key × Own)} {x : Key × Own} : x ∈ zaS top b l ↔ x ∈ l ∧ x.1 ≠ top ∧ zbK x.1 top.length = b := by
 simp [zaS, List.mem_filter]
def zbr : Nat → List (Key × Own) → List Nd
 | _, [] => []
 | 0, _ :: _ => []
 | n + 1, x :: l =>
  (zaT (x :: l), zdx (zaT (x :: l)) (x :: l), 1 + (zbr n (zaS (zaT (x :: l)) false (x :: l)) ++ zbr n (zaS (zaT (x :: l)) true (x :: l))).length) ::
   (zbr n (zaS (zaT (x :: l)) false (x :: l)) ++ zbr n (zaS (zaT (x :: l)) true (x :: l)))
theorem TR.join_root {p : Key} {o : Own} {l r : TR} (hv : (TR.nd p o l r).valid) {L : List (Key × Own)} (hp : L.Perm (TR.nd p o l r).pairs) : zaT L = p := by
 have hne : L ≠ [] := by
  obtain ⟨x, hx⟩ := TR.pairs_ne hv (by simp)
  intro e; subst e
  exact absurd (hp.mem_iff.2 hx) (by simp)
 refine pre_antisymm (TR.root_max hv fun x hx => zdW x (hp.mem_iff.2 hx)) (zgZ hne fun x hx => TR.root_pre hv x (hp.mem_iff.1 hx))
theorem TR.own_root {p : Key} {o : Own} {l r : TR} (hv : (TR.nd p o l r).valid) {L : List (Key × Own)} (hp : L.Perm (TR.nd p o l r).pairs) : zdx p L = o := by
 obtain ⟨h1, h2, h3, h4, h5⟩ := hv
 have key : ∀ x ∈ L, x.1 = p → x.2 = o := fun x hx e => by
  have := hp.mem_iff.1 hx
  simp only [TR.pairs, List.mem_append] at this
  rcases this with h | h | h
  ·obtain ⟨rfl, _⟩ := zgf h; rfl
  ·exact absurd e (zdG (TR.pairs_below h1 h3 x h))
  ·exact absurd e (zdG (TR.pairs_below h2 h4 x h))
 by_cases ho : o = noOwn
 ·exact zfE L _ key (.inl ho.symm)
 ·exact zfE L _ key (.inr ⟨(p, o), hp.mem_iff.2 (by simp [TR.pairs, ownP, ho]), rfl⟩)
theorem sideL_pairs {p : Key} {o : Own} {l r : TR} (hv : (TR.nd p o l r).valid) : zaS p false (TR.nd p o l r).pairs = l.pairs ∧ zaS p true (TR.nd p o l r).pairs = r.pairs := by
 obtain ⟨h1, h2, h3, h4, h5⟩ := hv
 have e0 : ∀ b, zaS p b (ownP p o) = [] := fun b => by
  unfold zaS ownP
  split <;> simp
 have full : ∀ (t : TR) (b : Bool), t.valid → t.under (p ++ [b]) → zaS p b t.pairs = t.pairs := fun t b hv hb => by
  refine List.filter_eq_self.2 fun x hx => ?_
  have := TR.pairs_below hv hb x hx
  simp [zdG this, zda this]
 have none : ∀ (t : TR) (b : Bool), t.valid → t.under (p ++ [b]) → zaS p (!b) t.pairs = [] := fun t b hv hb => by
  refine List.filter_eq_nil_iff.2 fun x hx => ?_
  have := TR.pairs_below hv hb x hx
  simp [zda this]
 have app : ∀ b (x y : List (Key × Own)), zaS p b (x ++ y) = zaS p b x ++ zaS p b y := fun b x y => List.filter_append ..
 constructor
 ·rw [TR.pairs, app, app, e0, full l false h1 h3, show zaS p false r.pairs = [] from none r true h2 h4]; simp
 ·rw [TR.pairs, app, app, e0, full r true h2 h4, show zaS p true l.pairs = [] from none l false h1 h3]; simp
theorem ze0 : ∀ {t : TR} {L : List (Key × Own)} {n : Nat}, t.valid → L.Perm t.pairs → L.length ≤ n → zbr n L = t.nodes
 | .nil, L, n, _, hp, _ => by
  obtain rfl : L = [] := List.Perm.eq_nil hp
  cases n <;> rfl
 | .nd p o l r, L, n, hv, hp, hn => by
  have hj := TR.join_root hv hp
  have ho := TR.own_root hv hp
  have hs := sideL_pairs hv
  have p1 : (zaS p false L).Perm l.pairs := by rw [← hs.1]; exact hp.filter _
  have p2 : (zaS p true L).Perm r.pairs := by rw [← hs.2]; exact hp.filter _
  have hlen := hp.length_eq
  match L, n, hn with
  | [], _, _ =>
   obtain ⟨x, hx⟩ := TR.pairs_ne hv (by simp)
   exact absurd (hp.mem_iff.2 hx) (by simp)
  | x :: L, 0, hn => simp at hn
  | x :: L, n + 1, hn =>
   have hlp := p1.length_eq
   have hrp := p2.length_eq
   have hlt : l.pairs.length + r.pairs.length ≤ n + 1 := by
    simp only [TR.pairs, List.length_append] at hlen; simp only [List.length_cons] at hn hlen; omega
   have hl1 : (zaS p false (x :: L)).length ≤ n ∧ (zaS p true (x :: L)).length ≤ n := by
    rw [hlp, hrp]
    obtain ⟨h1, h2, h3, h4, h5⟩ := hv
    by_cases hoo : o = noOwn
    ·obtain ⟨y, hy⟩ := TR.pairs_ne h1 (h5 hoo).1
     obtain ⟨z, hz⟩ := TR.pairs_ne h2 (h5 hoo).2
     have := List.length_pos_of_mem hy
     have := List.length_pos_of_mem hz
     omega
    ·have : (ownP p o).length = 1 := by unfold ownP; rw [if_neg hoo]; rfl
     simp only [TR.pairs, List.length_append] at hlen; simp only [List.length_cons] at hn hlen
     omega
   rw [zbr, hj, ho, ze0 hv.1 p1 hl1.1, ze0 hv.2.1 p2 hl1.2]
   rfl
def TR.put : TR → Key → Own → TR
 | .nil, n, o => .nd n o .nil .nil
 | .nd p q l r, n, o =>
  if p = n then .nd n o l r
  else if p <+: n then (if zbK n p.length = true then .nd p q l (r.put n o) else .nd p q (l.put n o) r)
  else if n <+: p then (if zbK p n.length = true then .nd n o .nil (.nd p q l r) else .nd n o (.nd p q l r) .nil)
  else (if zbK n (lcpL p n).length = true then .nd (lcpL p n) noOwn (.nd p q l r) (.nd n o .nil .nil) else .nd (lcpL p n) noOwn (.nd n o .nil .nil) (.nd p q l r))
theorem TR.put_ne : ∀ (t : TR) (n : Key) (o : Own), t.put n o ≠ .nil
 | .nil, n, o => by simp [TR.put]
 | .nd p q l r, n, o => by
  rw [TR.put]
  split
  ·simp
  ·split
   ·split <;> simp
   ·split
    ·split <;> simp
    ·split <;> simp
theorem fork_bits {p n : Key} (h1 : ¬ p <+: n) (h2 : ¬ n <+: p) : lcpL p n ++ [zbK p (lcpL p n).length] <+: p ∧ lcpL p n ++ [zbK n (lcpL p n).length] <+: n ∧ zbK p (lcpL p n).length = !zbK n (lcpL p n).length := by
 have a1 := zcD (zdc p n) (fun e => h1 (by have h := zcY p n; rw [← e] at h; exact h))
 have a2 := zcD (zcY p n) (fun e => h2 (by have h := zdc p n; rw [← e] at h; exact h))
 refine ⟨a1, a2, ?_⟩
 cases hb : zbK p (lcpL p n).length <;> cases hc : zbK n (lcpL p n).length <;> try rfl
 all_goals
  exfalso
  rw [hb] at a1
  rw [hc] at a2
  have := (zex a1 a2).length_le
  simp only [List.length_append, List.length_singleton] at this
  omega
theorem TR.put_valid : ∀ {t : TR} {n : Key} {o : Own}, t.valid → o ≠ noOwn → (t.put n o).valid ∧ ∀ q, t.under q → q <+: n → (t.put n o).under q
 | .nil, n, o, _, ho => ⟨⟨trivial, trivial, trivial, trivial, fun e => absurd e ho⟩, fun q _ h => h⟩
 | .nd p q l r, n, o, hv, ho => by
  have hv' := hv
  obtain ⟨h1, h2, h3, h4, h5⟩ := hv
  rw [TR.put]
  split
  ·rename_i e; subst e
   exact ⟨⟨h1, h2, h3, h4, fun e => absurd e ho⟩, fun z hz _ => hz⟩
  ·rename_i hne
   split
   ·rename_i hpn
    have hx := zcD hpn (fun e => hne e.symm)
    split
    ·rename_i hb
     rw [hb] at hx
     obtain ⟨k1, k2⟩ := TR.put_valid (n := n) h2 ho
     exact ⟨⟨h1, k1, h3, k2 _ h4 hx, fun e => ⟨(h5 e).1, TR.put_ne _ _ _⟩⟩, fun z hz _ => hz⟩
    ·rename_i hb
     have hb' : zbK n p.length = false := by simpa using hb
     rw [hb'] at hx
     obtain ⟨k1, k2⟩ := TR.put_valid (n := n) h1 ho
     exact ⟨⟨k1, h2, k2 _ h3 hx, h4, fun e => ⟨TR.put_ne _ _ _, (h5 e).2⟩⟩, fun z hz _ => hz⟩
   ·rename_i hpn
    split
    ·rename_i hnp
     have hx := zcD hnp (fun e => hne e)
     split
     ·rename_i hb
      rw [hb] at hx
      exact ⟨⟨trivial, hv', trivial, hx, fun e => absurd e ho⟩, fun z hz hzn => hzn⟩
     ·rename_i hb
      have hb' : zbK p n.length = false := by simpa using hb
      rw [hb'] at hx
      exact ⟨⟨hv', trivial, hx, trivial, fun e => absurd e ho⟩, fun z hz hzn => hzn⟩
    ·rename_i hnp
     obtain ⟨f1, f2, f3⟩ := fork_bits hpn hnp
     have leaf : (TR.nd n o .nil .nil).valid := ⟨trivial, trivial, trivial, trivial, fun e => absurd e ho⟩
     split
     ·rename_i hb
      rw [hb] at f2 f3
      rw [f3] at f1
      exact ⟨⟨hv', leaf, f1, f2, fun _ => ⟨by simp, by simp⟩⟩, fun z hz hzn => zex hz hzn⟩
     ·rename_i hb
      have hb' : zbK n (lcpL p n).length = false := by simpa using hb
      rw [hb'] at f2 f3
      rw [f3] at f1
      exact ⟨⟨leaf, hv', f2, f1, fun _ => ⟨by simp, by simp⟩⟩, fun z hz hzn => zex hz hzn⟩
def notK (n : Key) (l : List (Key × Own)) : List (Key × Own) := l.filter fun x => !decide (x.1 = n)
theorem zet (n : Key) (a b : List (Key × Own)) : notK n (a ++ b) = notK n a ++ notK n b := List.filter_append ..
theorem zdU {n : Key} {l : List (Key × Own)} (h : ∀ x ∈ l, x.1 ≠ n) : notK n l = l := List.filter_eq_self.2 fun x hx => by simp [h x hx]
theorem zeX {p : Key} {o : Own} (h : o ≠ noOwn) : ownP p o = [(p, o)] := by unfold ownP; rw [if_neg h]
theorem ownP_no (p : Key) : ownP p noOwn = [] := by unfold ownP; rw [if_pos rfl]
theorem TR.put_pairs : ∀ {t : TR} {n : Key} {o : Own}, t.valid → o ≠ noOwn → (t.put n o).pairs.Perm ((n, o) :: notK n t.pairs)
 | .nil, n, o, _, ho => by simp [TR.put, TR.pairs, zeX ho, notK]
 | .nd p q l r, n, o, hv, ho => by
  have hroot := TR.root_pre hv
  obtain ⟨h1, h2, h3, h4, h5⟩ := hv
  have bl : ∀ x ∈ l.pairs, p ++ [false] <+: x.1 := TR.pairs_below h1 h3
  have br : ∀ x ∈ r.pairs, p ++ [true] <+: x.1 := TR.pairs_below h2 h4
  rw [TR.put]
  split
  ·rename_i e; subst e
   have e1 : notK p (ownP p q) = [] := by unfold notK ownP; split <;> simp
   rw [TR.pairs, TR.pairs, zet, zet, e1, zdU fun x hx => zdG (bl x hx), zdU fun x hx => zdG (br x hx), zeX ho]
   exact List.Perm.refl _
  ·rename_i hne
   have e0 : notK n (ownP p q) = ownP p q := zdU fun x hx => by obtain ⟨rfl, _⟩ := zgf hx; exact hne
   split
   ·rename_i hpn
    have hx := zcD hpn (fun e => hne e.symm)
    split
    ·rename_i hb
     rw [hb] at hx
     have el : notK n l.pairs = l.pairs := zdU fun x hx2 e => by
      have := zda (bl x hx2)
      rw [e, zda hx] at this; cases this
     rw [TR.pairs, TR.pairs, zet, zet, e0, el]
     have ih := TR.put_pairs (n := n) (o := o) h2 ho
     refine ((List.Perm.append_left _ (List.Perm.append_left _ ih))).trans ?_
     rw [← List.append_assoc, ← List.append_assoc]
     exact List.perm_middle
    ·rename_i hb
     have hb' : zbK n p.length = false := by simpa using hb
     rw [hb'] at hx
     have er : notK n r.pairs = r.pairs := zdU fun x hx2 e => by
      have := zda (br x hx2)
      rw [e, zda hx] at this; cases this
     rw [TR.pairs, TR.pairs, zet, zet, e0, er]
     have ih := TR.put_pairs (n := n) (o := o) h1 ho
     refine ((List.Perm.append_left _ (List.Perm.append_right _ ih))).trans ?_
     rw [List.cons_append]
     exact List.perm_middle
   ·rename_i hpn
    have hall : notK n (TR.nd p q l r).pairs = (TR.nd p q l r).pairs := zdU fun x hx e => hpn (by rw [← e]; exact hroot x hx)
    split
    ·split
     ·rw [hall, TR.pairs, zeX ho]
      simp [TR.pairs]
     ·rw [hall, TR.pairs, zeX ho]
      simp [TR.pairs]
    ·split
     ·rw [hall, TR.pairs, ownP_no]
      simp only [List.nil_append]
      rw [show (TR.nd n o .nil .nil).pairs = [(n, o)] by simp [TR.pairs, zeX ho]]
      exact List.perm_append_singleton _ _
     ·rw [hall, TR.pairs, ownP_no]
      simp only [List.nil_append]
      rw [show (TR.nd n o .nil .nil).pairs = [(n, o)] by simp [TR.pairs, zeX ho]]
      exact List.Perm.refl _
def TR.isNil : TR → Bool
 | .nil => true
 | _ => false
theorem TR.isNil_iff {t : TR} : t.isNil = true ↔ t = .nil := by cases t <;> simp [TR.isNil]
def TR.pick (p : Key) (o : Own) (l r : TR) : TR := if o ≠ noOwn ∨ (l.isNil = false ∧ r.isNil = false) then .nd p o l r else if l.isNil = false then l else r
def TR.strip (is : Key → Own → Bool) : TR → TR
 | .nil => .nil
 | .nd p o l r => TR.pick p (if is p o = true then noOwn else o) (l.strip is) (r.strip is)
def TR.find : TR → Key → Own → Own
 | .nil, _, a => a
 | .nd p o l r, n, a => if p <+: n then (if p = n then (if o ≠ noOwn then o else a) else if zbK n p.length = true then r.find n (if o ≠ noOwn then o else a) else l.find n (if o ≠ noOwn then o else a)) else a
end Go.Proofs.YtbjdjclkbjpebaaGreatDoor
