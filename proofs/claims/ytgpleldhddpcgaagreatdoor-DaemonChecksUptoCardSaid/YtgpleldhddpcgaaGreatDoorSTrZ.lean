/- Tries over lists of bits: what is a tree, the tree of a list of owned nets, putting, stripping, finding. Tries over lists of bits: putting, stripping, finding. -/
import Derived.Test.YtgpleldhddpcgaaGreatDoorSMa4
namespace Go.Proofs.YtgpleldhddpcgaaGreatDoor
set_option linter.unusedVariables false
set_option linter.unusedSimpArgs false
abbrev Key := List Bool
abbrev Own := ByteArray
abbrev noOwn : ByteArray := ⟨#[]⟩
def zbV (k : Key) (i : Nat) : Bool := k.getD i false
theorem pre_antisymm {a b : Key} (h : a <+: b) (k : b <+: a) : a = b := h.eq_of_length (Nat.le_antisymm h.length_le k.length_le)
theorem pre_total {a b c : Key} (h : a <+: c) (k : b <+: c) : a <+: b ∨ b <+: a := List.prefix_or_prefix_of_prefix h k
theorem zcr {p k : Key} (h : p <+: k) (hne : k ≠ p) : p ++ [zbV k p.length] <+: k := by
 obtain ⟨t, rfl⟩ := h
 cases t with
 | nil => simp at hne
 | cons b t =>
  refine ⟨t, ?_⟩
  simp [zbV]
theorem zcQ {p k : Key} {b : Bool} (h : p ++ [b] <+: k) : zbV k p.length = b := by
 obtain ⟨t, rfl⟩ := h
 simp [zbV]
theorem zdv {p k : Key} {b : Bool} (h : p ++ [b] <+: k) : p <+: k := List.IsPrefix.trans (List.prefix_append _ _) h
theorem zdn {p k : Key} {b : Bool} (h : p ++ [b] <+: k) : k ≠ p := fun e => by
 have := h.length_le
 rw [e] at this
 simp only [List.length_append, List.length_singleton] at this
 omega
/-- what begins two that part behind p is no longer than p -/
theorem pre_part {p z a b : Key} (ha : p ++ [false] <+: a) (hb : p ++ [true] <+: b) (h1 : z <+: a) (h2 : z <+: b) : z <+: p := by
 rcases pre_total h1 ha with h | h
 ·rcases pre_total h2 hb with k | k
  ·by_cases hl : z.length ≤ p.length
   ·have := List.prefix_of_prefix_length_le h1 (zdv ha) hl
    exact this
   ·have e1 : z = p ++ [false] := h.eq_of_length (by have := h.length_le; simp at this ⊢; omega)
    have e2 : z = p ++ [true] := k.eq_of_length (by have := k.length_le; simp at this ⊢; omega)
    rw [e1] at e2; simp at e2
  ·have := zcQ (k.trans h1)
   rw [zcQ ha] at this; cases this
 ·have := zcQ (h.trans h2)
  rw [zcQ hb] at this; cases this
def lcpL : Key → Key → Key
 | a :: l, b :: r => if a = b then a :: lcpL l r else []
 | _, _ => []
theorem zcS : ∀ l r : Key, lcpL l r <+: l
 | [], r => by cases r <;> simp [lcpL]
 | a :: l, [] => by simp [lcpL]
 | a :: l, b :: r => by
  simp only [lcpL]
  split
  ·exact List.cons_prefix_cons.2 ⟨rfl, zcS l r⟩
  ·exact List.nil_prefix
theorem zcK : ∀ l r : Key, lcpL l r <+: r
 | [], r => by cases r <;> simp [lcpL]
 | a :: l, [] => by simp [lcpL]
 | a :: l, b :: r => by
  simp only [lcpL]
  split
  ·rename_i h; subst h; exact List.cons_prefix_cons.2 ⟨rfl, zcK l r⟩
  ·exact List.nil_prefix
theorem zeh : ∀ {p l r : Key}, p <+: l → p <+: r → p <+: lcpL l r
 | [], l, r, _, _ => List.nil_prefix
 | x :: p, [], r, h, _ => by have := h.length_le; simp at this
 | x :: p, a :: l, [], _, h => by have := h.length_le; simp at this
 | x :: p, a :: l, b :: r, h, k => by
  obtain ⟨rfl, h'⟩ := List.cons_prefix_cons.1 h
  obtain ⟨rfl, k'⟩ := List.cons_prefix_cons.1 k
  simp only [lcpL, if_true]
  exact List.cons_prefix_cons.2 ⟨rfl, zeh h' k'⟩
def zge (p : Key) (l : List Key) : Key := l.foldl lcpL p
theorem zfk : ∀ (l : List Key) (p : Key), zge p l <+: p
 | [], p => List.prefix_refl _
 | q :: l, p => (zfk l (lcpL p q)).trans (zcS p q)
theorem joinK_mem : ∀ (l : List Key) (p : Key), ∀ q ∈ l, zge p l <+: q
 | [], p, q, h => by cases h
 | x :: l, p, q, h => by
  rcases List.mem_cons.1 h with rfl | h
  ·exact (zfk l (lcpL p q)).trans (zcK p q)
  ·exact joinK_mem l _ q h
theorem joinK_max : ∀ {l : List Key} {p x : Key}, x <+: p → (∀ q ∈ l, x <+: q) → x <+: zge p l
 | [], p, x, h, _ => h
 | q :: l, p, x, h, k => joinK_max (l := l) (zeh h (k q (by simp))) fun r hr => k r (by simp [hr])
def zba : List (Key × Own) → Key
 | [] => []
 | x :: l => zge x.1 ((x :: l).map Prod.fst)
theorem zdy {l : List (Key × Own)} : ∀ x ∈ l, zba l <+: x.1 := by
 intro x hx
 cases l with
 | nil => cases hx
 | cons y l => exact joinK_mem _ _ _ (List.mem_map.2 ⟨x, hx, rfl⟩)
theorem zgf {l : List (Key × Own)} {z : Key} (hne : l ≠ []) (h : ∀ x ∈ l, z <+: x.1) : z <+: zba l := by
 cases l with
 | nil => exact absurd rfl hne
 | cons y l =>
  refine joinK_max (h y (by simp)) fun q hq => ?_
  obtain ⟨x, hx, rfl⟩ := List.mem_map.1 hq
  exact h x hx
inductive TR where
 | nil
 | nd (p : Key) (o : Own) (l r : TR)
def TR.under (q : Key) : TR → Prop
 | .nil => True
 | .nd p _ _ _ => q <+: p
def TR.valid : TR → Prop
 | .nil => True
 | .nd p o l r => l.valid ∧ r.valid ∧ l.under (p ++ [false]) ∧ r.under (p ++ [true]) ∧ (o = noOwn → l ≠ .nil ∧ r ≠ .nil)
def ownP (p : Key) (o : Own) : List (Key × Own) := if o = noOwn then [] else [(p, o)]
def TR.pairs : TR → List (Key × Own)
 | .nil => []
 | .nd p o l r => ownP p o ++ (l.pairs ++ r.pairs)
abbrev Nd := Key × Own × Nat
def TR.nodes : TR → List Nd
 | .nil => []
 | .nd p o l r => (p, o, 1 + (l.nodes ++ r.nodes).length) :: (l.nodes ++ r.nodes)
theorem zfI {p : Key} {o : Own} {x : Key × Own} (h : x ∈ ownP p o) : x = (p, o) ∧ o ≠ noOwn := by
 unfold ownP at h
 split at h
 ·cases h
 ·exact ⟨by simpa using h, by assumption⟩
theorem TR.pairs_below : ∀ {t : TR} {q : Key}, t.valid → t.under q → ∀ x ∈ t.pairs, q <+: x.1
 | .nil, q, _, _, x, h => by cases h
 | .nd p o l r, q, hv, hb, x, h => by
  obtain ⟨h1, h2, h3, h4, h5⟩ := hv
  simp only [TR.pairs, List.mem_append] at h
  rcases h with h | h | h
  ·obtain ⟨rfl, _⟩ := zfI h; exact hb
  ·exact List.IsPrefix.trans hb (zdv (TR.pairs_below h1 h3 x h))
  ·exact List.IsPrefix.trans hb (zdv (TR.pairs_below h2 h4 x h))
theorem TR.pairs_ne : ∀ {t : TR}, t.valid → t ≠ .nil → ∃ x, x ∈ t.pairs
 | .nil, _, h => absurd rfl h
 | .nd p o l r, hv, _ => by
  obtain ⟨h1, h2, h3, h4, h5⟩ := hv
  by_cases ho : o = noOwn
  ·obtain ⟨x, hx⟩ := TR.pairs_ne h1 (h5 ho).1
   exact ⟨x, by simp [TR.pairs, hx]⟩
  ·exact ⟨(p, o), by simp [TR.pairs, ownP, ho]⟩
/-- what begins all that a tree has begins its root -/
theorem TR.root_max {p : Key} {o : Own} {l r : TR} {z : Key} (hv : (TR.nd p o l r).valid) (h : ∀ x ∈ (TR.nd p o l r).pairs, z <+: x.1) : z <+: p := by
 obtain ⟨h1, h2, h3, h4, h5⟩ := hv
 by_cases ho : o = noOwn
 ·obtain ⟨x, hx⟩ := TR.pairs_ne h1 (h5 ho).1
  obtain ⟨y, hy⟩ := TR.pairs_ne h2 (h5 ho).2
  exact pre_part (TR.pairs_below h1 h3 x hx) (TR.pairs_below h2 h4 y hy) (h x (by simp [TR.pairs, hx])) (h y (by simp [TR.pairs, hy]))
 ·exact h (p, o) (by simp [TR.pairs, ownP, ho])
theorem TR.root_pre {p : Key} {o : Own} {l r : TR} (hv : (TR.nd p o l r).valid) : ∀ x ∈ (TR.nd p o l r).pairs, p <+: x.1 := TR.pairs_below hv (List.prefix_refl _)
def zdc (top : Key) (l : List (Key × Own)) : Own := l.foldl (fun o x => if x.1 = top then x.2 else o) noOwn
theorem zfd {top : Key} {o : Own} : ∀ (l : List (Key × Own)) (a : Own), (∀ x ∈ l, x.1 = top → x.2 = o) → (a = o ∨ ∃ x ∈ l, x.1 = top) → l.foldl (fun o x => if x.1 = top then x.2 else o) a = o
 | [], a, _, h => by
  rcases h with h | ⟨x, hx, _⟩
  ·exact h
  ·cases hx
 | y :: l, a, h, k => by
  rw [List.foldl_cons]
  refine zfd l _ (fun x hx => h x (by simp [hx])) ?_
  by_cases hy : y.1 = top
  ·rw [if_pos hy]; exact .inl (h y (by simp) hy)
  ·rw [if_neg hy]
   rcases k with k | ⟨x, hx, hxt⟩
   ·exact .inl k
   ·rcases List.mem_cons.1 hx with rfl | hx
    ·exact absurd hxt hy
    ·exact .inr ⟨x, hx, hxt⟩
def za9 (top : Key) (b : Bool) (l : List (Key × Own)) : List (Key × Own) := l.filter fun x => !decide (x.1 = top) && (zbV x.1 top.length == b)
theorem zf0 {top : Key} {b : Bool} {l : List (Key × Own)} {x : Key × Own} : x ∈ za9 top b l ↔ x ∈ l ∧ x.1 ≠ top ∧ zbV x.1 top.length = b := by
 simp [za9, List.mem_filter]
def zby : Nat → List (Key × Own) → List Nd
 | _, [] => []
 | 0, _ :: _ => []
 | n + 1, x :: l =>
  (zba (x :: l), zdc (zba (x :: l)) (x :: l), 1 + (zby n (za9 (zba (x :: l)) false (x :: l)) ++ zby n (za9 (zba (x :: l)) true (x :: l))).length) ::
   (zby n (za9 (zba (x :: l)) false (x :: l)) ++ zby n (za9 (zba (x :: l)) true (x :: l)))
theorem TR.join_root {p : Key} {o : Own} {l r : TR} (hv : (TR.nd p o l r).valid) {L : List (Key × Own)} (hp : L.Perm (TR.nd p o l r).pairs) : zba L = p := by
 have hne : L ≠ [] := by
  obtain ⟨x, hx⟩ := TR.pairs_ne hv (by simp)
  intro e; subst e
  exact absurd (hp.mem_iff.2 hx) (by simp)
 refine pre_antisymm (TR.root_max hv fun x hx => zdy x (hp.mem_iff.2 hx)) (zgf hne fun x hx => TR.root_pre hv x (hp.mem_iff.1 hx))
theorem TR.own_root {p : Key} {o : Own} {l r : TR} (hv : (TR.nd p o l r).valid) {L : List (Key × Own)} (hp : L.Perm (TR.nd p o l r).pairs) : zdc p L = o := by
 obtain ⟨h1, h2, h3, h4, h5⟩ := hv
 have key : ∀ x ∈ L, x.1 = p → x.2 = o := fun x hx e => by
  have := hp.mem_iff.1 hx
  simp only [TR.pairs, List.mem_append] at this
  rcases this with h | h | h
  ·obtain ⟨rfl, _⟩ := zfI h; rfl
  ·exact absurd e (zdn (TR.pairs_below h1 h3 x h))
  ·exact absurd e (zdn (TR.pairs_below h2 h4 x h))
 by_cases ho : o = noOwn
 ·exact zfd L _ key (.inl ho.symm)
 ·exact zfd L _ key (.inr ⟨(p, o), hp.mem_iff.2 (by simp [TR.pairs, ownP, ho]), rfl⟩)
theorem sideL_pairs {p : Key} {o : Own} {l r : TR} (hv : (TR.nd p o l r).valid) : za9 p false (TR.nd p o l r).pairs = l.pairs ∧ za9 p true (TR.nd p o l r).pairs = r.pairs := by
 obtain ⟨h1, h2, h3, h4, h5⟩ := hv
 have e0 : ∀ b, za9 p b (ownP p o) = [] := fun b => by
  unfold za9 ownP
  split <;> simp
 have full : ∀ (t : TR) (b : Bool), t.valid → t.under (p ++ [b]) → za9 p b t.pairs = t.pairs := fun t b hv hb => by
  refine List.filter_eq_self.2 fun x hx => ?_
  have := TR.pairs_below hv hb x hx
  simp [zdn this, zcQ this]
 have none : ∀ (t : TR) (b : Bool), t.valid → t.under (p ++ [b]) → za9 p (!b) t.pairs = [] := fun t b hv hb => by
  refine List.filter_eq_nil_iff.2 fun x hx => ?_
  have := TR.pairs_below hv hb x hx
  simp [zcQ this]
 have app : ∀ b (x y : List (Key × Own)), za9 p b (x ++ y) = za9 p b x ++ za9 p b y := fun b x y => List.filter_append ..
 constructor
 ·rw [TR.pairs, app, app, e0, full l false h1 h3, show za9 p false r.pairs = [] from none r true h2 h4]; simp
 ·rw [TR.pairs, app, app, e0, full r true h2 h4, show za9 p true l.pairs = [] from none l false h1 h3]; simp
/-- a list of what a tree has grows to the tree -/
theorem zeL : ∀ {t : TR} {L : List (Key × Own)} {n : Nat}, t.valid → L.Perm t.pairs → L.length ≤ n → zby n L = t.nodes
 | .nil, L, n, _, hp, _ => by
  obtain rfl : L = [] := List.Perm.eq_nil hp
  cases n <;> rfl
 | .nd p o l r, L, n, hv, hp, hn => by
  have hj := TR.join_root hv hp
  have ho := TR.own_root hv hp
  have hs := sideL_pairs hv
  have p1 : (za9 p false L).Perm l.pairs := by rw [← hs.1]; exact hp.filter _
  have p2 : (za9 p true L).Perm r.pairs := by rw [← hs.2]; exact hp.filter _
  have hlen := hp.length_eq
  match L, n, hn with
  | [], _, _ =>
   obtain ⟨x, hx⟩ := TR.pairs_ne hv (by simp)
   exact absurd (hp.mem_iff.2 hx) (by simp)
  | x :: L, 0, hn => simp at hn
  | x :: L, n + 1, hn =>
   have hlp := p1.length_eq
   have hrp := p2.length_eq
   have hlt : l.pairs.length + r.pairs.length ≤ n + 1 := by
    simp only [TR.pairs, List.length_append] at hlen; simp only [List.length_cons] at hn hlen; omega
   have hl1 : (za9 p false (x :: L)).length ≤ n ∧ (za9 p true (x :: L)).length ≤ n := by
    rw [hlp, hrp]
    obtain ⟨h1, h2, h3, h4, h5⟩ := hv
    by_cases hoo : o = noOwn
    ·obtain ⟨y, hy⟩ := TR.pairs_ne h1 (h5 hoo).1
     obtain ⟨z, hz⟩ := TR.pairs_ne h2 (h5 hoo).2
     have := List.length_pos_of_mem hy
     have := List.length_pos_of_mem hz
     omega
    ·have : (ownP p o).length = 1 := by unfold ownP; rw [if_neg hoo]; rfl
     simp only [TR.pairs, List.length_append] at hlen; simp only [List.length_cons] at hn hlen
     omega
   rw [zby, hj, ho, zeL hv.1 p1 hl1.1, zeL hv.2.1 p2 hl1.2]
   rfl
end Go.Proofs.YtgpleldhddpcgaaGreatDoor
namespace Go.Proofs.YtgpleldhddpcgaaGreatDoor
set_option linter.unusedVariables false
set_option linter.unusedSimpArgs false
def TR.put : TR → Key → Own → TR
 | .nil, n, o => .nd n o .nil .nil
 | .nd p q l r, n, o =>
  if p = n then .nd n o l r
  else if p <+: n then (if zbV n p.length = true then .nd p q l (r.put n o) else .nd p q (l.put n o) r)
  else if n <+: p then (if zbV p n.length = true then .nd n o .nil (.nd p q l r) else .nd n o (.nd p q l r) .nil)
  else (if zbV n (lcpL p n).length = true then .nd (lcpL p n) noOwn (.nd p q l r) (.nd n o .nil .nil) else .nd (lcpL p n) noOwn (.nd n o .nil .nil) (.nd p q l r))
theorem TR.put_ne : ∀ (t : TR) (n : Key) (o : Own), t.put n o ≠ .nil
 | .nil, n, o => by simp [TR.put]
 | .nd p q l r, n, o => by
  rw [TR.put]
  split
  ·simp
  ·split
   ·split <;> simp
   ·split
    ·split <;> simp
    ·split <;> simp
theorem fork_bits {p n : Key} (h1 : ¬ p <+: n) (h2 : ¬ n <+: p) : lcpL p n ++ [zbV p (lcpL p n).length] <+: p ∧ lcpL p n ++ [zbV n (lcpL p n).length] <+: n ∧ zbV p (lcpL p n).length = !zbV n (lcpL p n).length := by
 have a1 := zcr (zcS p n) (fun e => h1 (by have h := zcK p n; rw [← e] at h; exact h))
 have a2 := zcr (zcK p n) (fun e => h2 (by have h := zcS p n; rw [← e] at h; exact h))
 refine ⟨a1, a2, ?_⟩
 cases hb : zbV p (lcpL p n).length <;> cases hc : zbV n (lcpL p n).length <;> try rfl
 all_goals
  exfalso
  rw [hb] at a1
  rw [hc] at a2
  have := (zeh a1 a2).length_le
  simp only [List.length_append, List.length_singleton] at this
  omega
theorem TR.put_valid : ∀ {t : TR} {n : Key} {o : Own}, t.valid → o ≠ noOwn → (t.put n o).valid ∧ ∀ q, t.under q → q <+: n → (t.put n o).under q
 | .nil, n, o, _, ho => ⟨⟨trivial, trivial, trivial, trivial, fun e => absurd e ho⟩, fun q _ h => h⟩
 | .nd p q l r, n, o, hv, ho => by
  have hv' := hv
  obtain ⟨h1, h2, h3, h4, h5⟩ := hv
  rw [TR.put]
  split
  ·rename_i e; subst e
   exact ⟨⟨h1, h2, h3, h4, fun e => absurd e ho⟩, fun z hz _ => hz⟩
  ·rename_i hne
   split
   ·rename_i hpn
    have hx := zcr hpn (fun e => hne e.symm)
    split
    ·rename_i hb
     rw [hb] at hx
     obtain ⟨k1, k2⟩ := TR.put_valid (n := n) h2 ho
     exact ⟨⟨h1, k1, h3, k2 _ h4 hx, fun e => ⟨(h5 e).1, TR.put_ne _ _ _⟩⟩, fun z hz _ => hz⟩
    ·rename_i hb
     have hb' : zbV n p.length = false := by simpa using hb
     rw [hb'] at hx
     obtain ⟨k1, k2⟩ := TR.put_valid (n := n) h1 ho
     exact ⟨⟨k1, h2, k2 _ h3 hx, h4, fun e => ⟨TR.put_ne _ _ _, (h5 e).2⟩⟩, fun z hz _ => hz⟩
   ·rename_i hpn
    split
    ·rename_i hnp
     have hx := zcr hnp (fun e => hne e)
     split
     ·rename_i hb
      rw [hb] at hx
      exact ⟨⟨trivial, hv', trivial, hx, fun e => absurd e ho⟩, fun z hz hzn => hzn⟩
     ·rename_i hb
      have hb' : zbV p n.length = false := by simpa using hb
      rw [hb'] at hx
      exact ⟨⟨hv', trivial, hx, trivial, fun e => absurd e ho⟩, fun z hz hzn => hzn⟩
    ·rename_i hnp
     obtain ⟨f1, f2, f3⟩ := fork_bits hpn hnp
     have leaf : (TR.nd n o .nil .nil).valid := ⟨trivial, trivial, trivial, trivial, fun e => absurd e ho⟩
     split
     ·rename_i hb
      rw [hb] at f2 f3
      rw [f3] at f1
      exact ⟨⟨hv', leaf, f1, f2, fun _ => ⟨by simp, by simp⟩⟩, fun z hz hzn => zeh hz hzn⟩
     ·rename_i hb
      have hb' : zbV n (lcpL p n).length = false := by simpa using hb
      rw [hb'] at f2 f3
      rw [f3] at f1
      exact ⟨⟨leaf, hv', f2, f1, fun _ => ⟨by simp, by simp⟩⟩, fun z hz hzn => zeh hz hzn⟩
def notK (n : Key) (l : List (Key × Own)) : List (Key × Own) := l.filter fun x => !decide (x.1 = n)
theorem zef (n : Key) (a b : List (Key × Own)) : notK n (a ++ b) = notK n a ++ notK n b := List.filter_append ..
theorem zdw {n : Key} {l : List (Key × Own)} (h : ∀ x ∈ l, x.1 ≠ n) : notK n l = l := List.filter_eq_self.2 fun x hx => by simp [h x hx]
theorem zeH {p : Key} {o : Own} (h : o ≠ noOwn) : ownP p o = [(p, o)] := by unfold ownP; rw [if_neg h]
theorem ownP_no (p : Key) : ownP p noOwn = [] := by unfold ownP; rw [if_pos rfl]
theorem TR.put_pairs : ∀ {t : TR} {n : Key} {o : Own}, t.valid → o ≠ noOwn → (t.put n o).pairs.Perm ((n, o) :: notK n t.pairs)
 | .nil, n, o, _, ho => by simp [TR.put, TR.pairs, zeH ho, notK]
 | .nd p q l r, n, o, hv, ho => by
  have hroot := TR.root_pre hv
  obtain ⟨h1, h2, h3, h4, h5⟩ := hv
  have bl : ∀ x ∈ l.pairs, p ++ [false] <+: x.1 := TR.pairs_below h1 h3
  have br : ∀ x ∈ r.pairs, p ++ [true] <+: x.1 := TR.pairs_below h2 h4
  rw [TR.put]
  split
  ·rename_i e; subst e
   have e1 : notK p (ownP p q) = [] := by unfold notK ownP; split <;> simp
   rw [TR.pairs, TR.pairs, zef, zef, e1, zdw fun x hx => zdn (bl x hx), zdw fun x hx => zdn (br x hx), zeH ho]
   exact List.Perm.refl _
  ·rename_i hne
   have e0 : notK n (ownP p q) = ownP p q := zdw fun x hx => by obtain ⟨rfl, _⟩ := zfI hx; exact hne
   split
   ·rename_i hpn
    have hx := zcr hpn (fun e => hne e.symm)
    split
    ·rename_i hb
     rw [hb] at hx
     have el : notK n l.pairs = l.pairs := zdw fun x hx2 e => by
      have := zcQ (bl x hx2)
      rw [e, zcQ hx] at this; cases this
     rw [TR.pairs, TR.pairs, zef, zef, e0, el]
     have ih := TR.put_pairs (n := n) (o := o) h2 ho
     refine ((List.Perm.append_left _ (List.Perm.append_left _ ih))).trans ?_
     rw [← List.append_assoc, ← List.append_assoc]
     exact List.perm_middle
    ·rename_i hb
     have hb' : zbV n p.length = false := by simpa using hb
     rw [hb'] at hx
     have er : notK n r.pairs = r.pairs := zdw fun x hx2 e => by
      have := zcQ (br x hx2)
      rw [e, zcQ hx] at this; cases this
     rw [TR.pairs, TR.pairs, zef, zef, e0, er]
     have ih := TR.put_pairs (n := n) (o := o) h1 ho
     refine ((List.Perm.append_left _ (List.Perm.append_right _ ih))).trans ?_
     rw [List.cons_append]
     exact List.perm_middle
   ·rename_i hpn
    have hall : notK n (TR.nd p q l r).pairs = (TR.nd p q l r).pairs := zdw fun x hx e => hpn (by rw [← e]; exact hroot x hx)
    split
    ·split
     ·rw [hall, TR.pairs, zeH ho]
      simp [TR.pairs]
     ·rw [hall, TR.pairs, zeH ho]
      simp [TR.pairs]
    ·split
     ·rw [hall, TR.pairs, ownP_no]
      simp only [List.nil_append]
      rw [show (TR.nd n o .nil .nil).pairs = [(n, o)] by simp [TR.pairs, zeH ho]]
      exact List.perm_append_singleton _ _
     ·rw [hall, TR.pairs, ownP_no]
      simp only [List.nil_append]
      rw [show (TR.nd n o .nil .nil).pairs = [(n, o)] by simp [TR.pairs, zeH ho]]
      exact List.Perm.refl _
def TR.isNil : TR → Bool
 | .nil => true
 | _ => false
theorem TR.isNil_iff {t : TR} : t.isNil = true ↔ t = .nil := by cases t <;> simp [TR.isNil]
def TR.pick (p : Key) (o : Own) (l r : TR) : TR := if o ≠ noOwn ∨ (l.isNil = false ∧ r.isNil = false) then .nd p o l r else if l.isNil = false then l else r
def TR.strip (is : Key → Own → Bool) : TR → TR
 | .nil => .nil
 | .nd p o l r => TR.pick p (if is p o = true then noOwn else o) (l.strip is) (r.strip is)
end Go.Proofs.YtgpleldhddpcgaaGreatDoor
