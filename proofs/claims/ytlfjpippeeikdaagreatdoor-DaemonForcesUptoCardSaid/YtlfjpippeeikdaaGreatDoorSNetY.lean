/- Tries over lists of bits: what is a tree, the tree of a list of owned nets, putting, stripping, finding. Tries over lists of bits: putting, stripping, finding. -/
import Derived.Test.YtlfjpippeeikdaaGreatDoorSNetZ
import Derived.Lib.BitFns
import Derived.Test.YtlfjpippeeikdaaGreatDoorSShelf
import Derived.WalkLawsBesides
set_option linter.all false
namespace Go.Proofs.YtlfjpippeeikdaaGreatDoor
abbrev Key := List Bool
abbrev Own := ByteArray
abbrev noOwn : ByteArray := ⟨#[]⟩
def zbH (k : Key) (i : Nat) : Bool := k.getD i false
theorem pre_antisymm {a b : Key} (h : a <+: b) (k : b <+: a) : a = b := h.eq_of_length (Nat.le_antisymm h.length_le k.length_le)
theorem pre_total {a b c : Key} (h : a <+: c) (k : b <+: c) : a <+: b ∨ b <+: a := List.prefix_or_prefix_of_prefix h k
theorem zcv {p k : Key} (h : p <+: k) (hne : k ≠ p) : p ++ [zbH k p.length] <+: k := by
 obtain ⟨t, rfl⟩ := h
 cases t with
 | nil => simp at hne
 | cons b t =>
  refine ⟨t, ?_⟩
  simp [zbH]
theorem zc2 {p k : Key} {b : Bool} (h : p ++ [b] <+: k) : zbH k p.length = b := by
 obtain ⟨t, rfl⟩ := h
 simp [zbH]
theorem zdS {p k : Key} {b : Bool} (h : p ++ [b] <+: k) : p <+: k := List.IsPrefix.trans (List.prefix_append _ _) h
theorem zdE {p k : Key} {b : Bool} (h : p ++ [b] <+: k) : k ≠ p := fun e => by
 have := h.length_le
 rw [e] at this
 simp only [qaC, List.length_singleton] at this
 omega
theorem pre_part {p z a b : Key} (ha : p ++ [false] <+: a) (hb : p ++ [true] <+: b) (h1 : z <+: a) (h2 : z <+: b) : z <+: p := by
 rcases pre_total h1 ha with h | h
 ·rcases pre_total h2 hb with k | k
  ·by_cases hl : z.length ≤ p.length
   ·have := List.prefix_of_prefix_length_le h1 (zdS ha) hl
    exact this
   ·have e1 : z = p ++ [false] := h.eq_of_length (by have := h.length_le; simp at this ⊢; omega)
    have e2 : z = p ++ [true] := k.eq_of_length (by have := k.length_le; simp at this ⊢; omega)
    rw [e1] at e2; simp at e2
  ·have := zc2 (k.trans h1)
   rw [zc2 ha] at this; cases this
 ·have := zc2 (h.trans h2)
  rw [zc2 hb] at this; cases this
def lcpL : Key → Key → Key
 | a :: l, b :: r => if a = b then a :: lcpL l r else []
 | _, _ => []
theorem zc6 : ∀ l r : Key, lcpL l r <+: l
 | [], r => by cases r <;> simp [lcpL]
 | a :: l, [] => by simp [lcpL]
 | a :: l, b :: r => by
  simp only [lcpL]
  split
  ·exact qbZ.2 ⟨rfl, zc6 l r⟩
  ·exact List.nil_prefix
theorem zcV : ∀ l r : Key, lcpL l r <+: r
 | [], r => by cases r <;> simp [lcpL]
 | a :: l, [] => by simp [lcpL]
 | a :: l, b :: r => by
  simp only [lcpL]
  split
  ·rename_i h; subst h; exact qbZ.2 ⟨rfl, zcV l r⟩
  ·exact List.nil_prefix
theorem zeC : ∀ {p l r : Key}, p <+: l → p <+: r → p <+: lcpL l r
 | [], l, r, _, _ => List.nil_prefix
 | x :: p, [], r, h, _ => by have := h.length_le; simp at this
 | x :: p, a :: l, [], _, h => by have := h.length_le; simp at this
 | x :: p, a :: l, b :: r, h, k => by
  obtain ⟨rfl, h'⟩ := qbZ.1 h
  obtain ⟨rfl, k'⟩ := qbZ.1 k
  simp only [lcpL, if_true]
  exact qbZ.2 ⟨rfl, zeC h' k'⟩
def zhe (p : Key) (l : List Key) : Key := l.foldl lcpL p
theorem zf3 : ∀ (l : List Key) (p : Key), zhe p l <+: p
 | [], p => List.prefix_refl _
 | q :: l, p => (zf3 l (lcpL p q)).trans (zc6 p q)
theorem joinK_mem : ∀ (l : List Key) (p : Key), ∀ q ∈ l, zhe p l <+: q
 | [], p, q, h => by cases h
 | x :: l, p, q, h => by
  rcases qaI.1 h with rfl | h
  ·exact (zf3 l (lcpL p q)).trans (zcV p q)
  ·exact joinK_mem l _ q h
theorem joinK_max : ∀ {l : List Key} {p x : Key}, x <+: p → (∀ q ∈ l, x <+: q) → x <+: zhe p l
 | [], p, x, h, _ => h
 | q :: l, p, x, h, k => joinK_max (l := l) (zeC h (k q qz)) fun r hr => k r (by simp [hr])
def zaW : List (Key × Own) → Key
 | [] => []
 | x :: l => zhe x.1 ((x :: l).map Prod.fst)
theorem zdV {l : List (Key × Own)} : ∀ x ∈ l, zaW l <+: x.1 := by
 intro x hx
 cases l with
 | nil => cases hx
 | cons y l => exact joinK_mem _ _ _ (qaJ.2 ⟨x, hx, rfl⟩)
theorem zhf {l : List (Key × Own)} {z : Key} (hne : l ≠ []) (h : ∀ x ∈ l, z <+: x.1) : z <+: zaW l := by
 cases l with
 | nil => exact absurd rfl hne
 | cons y l =>
  refine joinK_max (h y qz) fun q hq => ?_
  obtain ⟨x, hx, rfl⟩ := qaJ.1 hq
  exact h x hx
inductive TR where
 | nil
 | nd (p : Key) (o : Own) (l r : TR)
def TR.under (q : Key) : TR → Prop
 | .nil => True
 | .nd p _ _ _ => q <+: p
def TR.valid : TR → Prop
 | .nil => True
 | .nd p o l r => l.valid ∧ r.valid ∧ l.under (p ++ [false]) ∧ r.under (p ++ [true]) ∧ (o = noOwn → l ≠ .nil ∧ r ≠ .nil)
def ownP (p : Key) (o : Own) : List (Key × Own) := if o = noOwn then [] else [(p, o)]
def TR.pairs : TR → List (Key × Own)
 | .nil => []
 | .nd p o l r => ownP p o ++ (l.pairs ++ r.pairs)
abbrev Nd := Key × Own × Nat
def TR.nodes : TR → List Nd
 | .nil => []
 | .nd p o l r => (p, o, 1 + (l.nodes ++ r.nodes).length) :: (l.nodes ++ r.nodes)
theorem zgB {p : Key} {o : Own} {x : Key × Own} (h : x ∈ ownP p o) : x = (p, o) ∧ o ≠ noOwn := by
 unfold ownP at h
 split at h
 ·cases h
 ·exact ⟨by simpa using h, qP⟩
theorem TR.pairs_below : ∀ {t : TR} {q : Key}, t.valid → t.under q → ∀ x ∈ t.pairs, q <+: x.1
 | .nil, q, _, _, x, h => by cases h
 | .nd p o l r, q, hv, hb, x, h => by
  obtain ⟨h1, h2, h3, h4, h5⟩ := hv
  simp only [TR.pairs, qaW] at h
  rcases h with h | h | h
  ·obtain ⟨rfl, _⟩ := zgB h; exact hb
  ·exact List.IsPrefix.trans hb (zdS (TR.pairs_below h1 h3 x h))
  ·exact List.IsPrefix.trans hb (zdS (TR.pairs_below h2 h4 x h))
theorem TR.pairs_ne : ∀ {t : TR}, t.valid → t ≠ .nil → ∃ x, x ∈ t.pairs
 | .nil, _, h => absurd rfl h
 | .nd p o l r, hv, _ => by
  obtain ⟨h1, h2, h3, h4, h5⟩ := hv
  by_cases ho : o = noOwn
  ·obtain ⟨x, hx⟩ := TR.pairs_ne h1 (h5 ho).1
   exact ⟨x, by simp [TR.pairs, hx]⟩
  ·exact ⟨(p, o), by simp [TR.pairs, ownP, ho]⟩
theorem TR.root_max {p : Key} {o : Own} {l r : TR} {z : Key} (hv : (TR.nd p o l r).valid) (h : ∀ x ∈ (TR.nd p o l r).pairs, z <+: x.1) : z <+: p := by
 obtain ⟨h1, h2, h3, h4, h5⟩ := hv
 by_cases ho : o = noOwn
 ·obtain ⟨x, hx⟩ := TR.pairs_ne h1 (h5 ho).1
  obtain ⟨y, hy⟩ := TR.pairs_ne h2 (h5 ho).2
  exact pre_part (TR.pairs_below h1 h3 x hx) (TR.pairs_below h2 h4 y hy) (h x qal) (h y (by simp [TR.pairs, hy]))
 ·exact h (p, o) (by simp [TR.pairs, ownP, ho])
theorem TR.root_pre {p : Key} {o : Own} {l r : TR} (hv : (TR.nd p o l r).valid) : ∀ x ∈ (TR.nd p o l r).pairs, p <+: x.1 := TR.pairs_below hv (List.prefix_refl _)
def zdr (top : Key) (l : List (Key × Own)) : Own := l.foldl (fun o x => if x.1 = top then x.2 else o) noOwn
theorem zfT {top : Key} {o : Own} : ∀ (l : List (Key × Own)) (a : Own), (∀ x ∈ l, x.1 = top → x.2 = o) → (a = o ∨ ∃ x ∈ l, x.1 = top) → l.foldl (fun o x => if x.1 = top then x.2 else o) a = o
 | [], a, _, h => by
  rcases h with h | ⟨x, hx, _⟩
  ·exact h
  ·cases hx
 | y :: l, a, h, k => by
  rw [List.foldl_cons]
  refine zfT l _ (fun x hx => h x qay) ?_
  by_cases hy : y.1 = top
  ·rw [if_pos hy]; exact .inl (h y qz hy)
  ·rw [if_neg hy]
   rcases k with k | ⟨x, hx, hxt⟩
   ·exact .inl k
   ·rcases qaI.1 hx with rfl | hx
    ·exact absurd hxt hy
    ·exact .inr ⟨x, hx, hxt⟩
def zaV (top : Key) (b : Bool) (l : List (Key × Own)) : List (Key × Own) := l.filter fun x => !decide (x.1 = top) && (zbH x.1 top.length == b)
theorem zgY {top : Key} {b : Bool} {l : List (Key × Own)} {x : Key × Own} : x ∈ zaV top b l ↔ x ∈ l ∧ x.1 ≠ top ∧ zbH x.1 top.length = b := by
 simp [zaV, qbM]
def zbm : Nat → List (Key × Own) → List Nd
 | _, [] => []
 | 0, _ :: _ => []
 | n + 1, x :: l =>
  (zaW (x :: l), zdr (zaW (x :: l)) (x :: l), 1 + (zbm n (zaV (zaW (x :: l)) false (x :: l)) ++ zbm n (zaV (zaW (x :: l)) true (x :: l))).length) ::
   (zbm n (zaV (zaW (x :: l)) false (x :: l)) ++ zbm n (zaV (zaW (x :: l)) true (x :: l)))
theorem TR.join_root {p : Key} {o : Own} {l r : TR} (hv : (TR.nd p o l r).valid) {L : List (Key × Own)} (hp : L.Perm (TR.nd p o l r).pairs) : zaW L = p := by
 have hne : L ≠ [] := by
  obtain ⟨x, hx⟩ := TR.pairs_ne hv qz
  intro e; subst e
  exact absurd (hp.mem_iff.2 hx) qz
 refine pre_antisymm (TR.root_max hv fun x hx => zdV x (hp.mem_iff.2 hx)) (zhf hne fun x hx => TR.root_pre hv x (hp.mem_iff.1 hx))
theorem TR.own_root {p : Key} {o : Own} {l r : TR} (hv : (TR.nd p o l r).valid) {L : List (Key × Own)} (hp : L.Perm (TR.nd p o l r).pairs) : zdr p L = o := by
 obtain ⟨h1, h2, h3, h4, h5⟩ := hv
 have key : ∀ x ∈ L, x.1 = p → x.2 = o := fun x hx e => by
  have := hp.mem_iff.1 hx
  simp only [TR.pairs, qaW] at this
  rcases this with h | h | h
  ·obtain ⟨rfl, _⟩ := zgB h; rfl
  ·exact absurd e (zdE (TR.pairs_below h1 h3 x h))
  ·exact absurd e (zdE (TR.pairs_below h2 h4 x h))
 by_cases ho : o = noOwn
 ·exact zfT L _ key (.inl ho.symm)
 ·exact zfT L _ key (.inr ⟨(p, o), hp.mem_iff.2 (by simp [TR.pairs, ownP, ho]), rfl⟩)
theorem sideL_pairs {p : Key} {o : Own} {l r : TR} (hv : (TR.nd p o l r).valid) : zaV p false (TR.nd p o l r).pairs = l.pairs ∧ zaV p true (TR.nd p o l r).pairs = r.pairs := by
 obtain ⟨h1, h2, h3, h4, h5⟩ := hv
 have e0 : ∀ b, zaV p b (ownP p o) = [] := fun b => by
  unfold zaV ownP
  split <;> simp
 have full : ∀ (t : TR) (b : Bool), t.valid → t.under (p ++ [b]) → zaV p b t.pairs = t.pairs := fun t b hv hb => by
  refine qbE.2 fun x hx => ?_
  have := TR.pairs_below hv hb x hx
  simp [zdE this, zc2 this]
 have none : ∀ (t : TR) (b : Bool), t.valid → t.under (p ++ [b]) → zaV p (!b) t.pairs = [] := fun t b hv hb => by
  refine List.filter_eq_nil_iff.2 fun x hx => ?_
  have := TR.pairs_below hv hb x hx
  simp [zc2 this]
 have app : ∀ b (x y : List (Key × Own)), zaV p b (x ++ y) = zaV p b x ++ zaV p b y := fun b x y => qbX ..
 constructor
 ·rw [TR.pairs, app, app, e0, full l false h1 h3, show zaV p false r.pairs = [] from none r true h2 h4]; simp
 ·rw [TR.pairs, app, app, e0, full r true h2 h4, show zaV p true l.pairs = [] from none l false h1 h3]; simp
theorem ze1 : ∀ {t : TR} {L : List (Key × Own)} {n : Nat}, t.valid → L.Perm t.pairs → L.length ≤ n → zbm n L = t.nodes
 | .nil, L, n, _, hp, _ => by
  obtain rfl : L = [] := List.Perm.eq_nil hp
  cases n <;> rfl
 | .nd p o l r, L, n, hv, hp, hn => by
  have hj := TR.join_root hv hp
  have ho := TR.own_root hv hp
  have hs := sideL_pairs hv
  have p1 : (zaV p false L).Perm l.pairs := by rw [← hs.1]; exact hp.filter _
  have p2 : (zaV p true L).Perm r.pairs := by rw [← hs.2]; exact hp.filter _
  have hlen := hp.length_eq
  match L, n, hn with
  | [], _, _ =>
   obtain ⟨x, hx⟩ := TR.pairs_ne hv qz
   exact absurd (hp.mem_iff.2 hx) qz
  | x :: L, 0, hn => simp at hn
  | x :: L, n + 1, hn =>
   have hlp := p1.length_eq
   have hrp := p2.length_eq
   have hlt : l.pairs.length + r.pairs.length ≤ n + 1 := by
    simp only [TR.pairs, qaC] at hlen; simp only [qaO] at hn hlen; omega
   have hl1 : (zaV p false (x :: L)).length ≤ n ∧ (zaV p true (x :: L)).length ≤ n := by
    rw [hlp, hrp]
    obtain ⟨h1, h2, h3, h4, h5⟩ := hv
    by_cases hoo : o = noOwn
    ·obtain ⟨y, hy⟩ := TR.pairs_ne h1 (h5 hoo).1
     obtain ⟨z, hz⟩ := TR.pairs_ne h2 (h5 hoo).2
     have := List.length_pos_of_mem hy
     have := List.length_pos_of_mem hz
     omega
    ·have : (ownP p o).length = 1 := by unfold ownP; rw [if_neg hoo]; rfl
     simp only [TR.pairs, qaC] at hlen; simp only [qaO] at hn hlen
     omega
   rw [zbm, hj, ho, ze1 hv.1 p1 hl1.1, ze1 hv.2.1 p2 hl1.2]
   rfl
def TR.put : TR → Key → Own → TR
 | .nil, n, o => .nd n o .nil .nil
 | .nd p q l r, n, o =>
  if p = n then .nd n o l r
  else if p <+: n then (if zbH n p.length = true then .nd p q l (r.put n o) else .nd p q (l.put n o) r)
  else if n <+: p then (if zbH p n.length = true then .nd n o .nil (.nd p q l r) else .nd n o (.nd p q l r) .nil)
  else (if zbH n (lcpL p n).length = true then .nd (lcpL p n) noOwn (.nd p q l r) (.nd n o .nil .nil) else .nd (lcpL p n) noOwn (.nd n o .nil .nil) (.nd p q l r))
theorem TR.put_ne : ∀ (t : TR) (n : Key) (o : Own), t.put n o ≠ .nil
 | .nil, n, o => by simp [TR.put]
 | .nd p q l r, n, o => by
  rw [TR.put]
  split
  ·simp
  ·split
   ·split <;> simp
   ·split
    ·split <;> simp
    ·split <;> simp
theorem fork_bits {p n : Key} (h1 : ¬ p <+: n) (h2 : ¬ n <+: p) : lcpL p n ++ [zbH p (lcpL p n).length] <+: p ∧ lcpL p n ++ [zbH n (lcpL p n).length] <+: n ∧ zbH p (lcpL p n).length = !zbH n (lcpL p n).length := by
 have a1 := zcv (zc6 p n) (fun e => h1 (by have h := zcV p n; rw [← e] at h; exact h))
 have a2 := zcv (zcV p n) (fun e => h2 (by have h := zc6 p n; rw [← e] at h; exact h))
 refine ⟨a1, a2, ?_⟩
 cases hb : zbH p (lcpL p n).length <;> cases hc : zbH n (lcpL p n).length <;> try rfl
 all_goals
  exfalso
  rw [hb] at a1
  rw [hc] at a2
  have := (zeC a1 a2).length_le
  simp only [qaC, List.length_singleton] at this
  omega
theorem TR.put_valid : ∀ {t : TR} {n : Key} {o : Own}, t.valid → o ≠ noOwn → (t.put n o).valid ∧ ∀ q, t.under q → q <+: n → (t.put n o).under q
 | .nil, n, o, _, ho => ⟨⟨trivial, trivial, trivial, trivial, fun e => absurd e ho⟩, fun q _ h => h⟩
 | .nd p q l r, n, o, hv, ho => by
  have hv' := hv
  obtain ⟨h1, h2, h3, h4, h5⟩ := hv
  rw [TR.put]
  split
  ·rename_i e; subst e
   exact ⟨⟨h1, h2, h3, h4, fun e => absurd e ho⟩, fun z hz _ => hz⟩
  ·rename_i hne
   split
   ·rename_i hpn
    have hx := zcv hpn (fun e => hne e.symm)
    split
    ·rename_i hb
     rw [hb] at hx
     obtain ⟨k1, k2⟩ := TR.put_valid (n := n) h2 ho
     exact ⟨⟨h1, k1, h3, k2 _ h4 hx, fun e => ⟨(h5 e).1, TR.put_ne _ _ _⟩⟩, fun z hz _ => hz⟩
    ·rename_i hb
     have hb' : zbH n p.length = false := by simpa using hb
     rw [hb'] at hx
     obtain ⟨k1, k2⟩ := TR.put_valid (n := n) h1 ho
     exact ⟨⟨k1, h2, k2 _ h3 hx, h4, fun e => ⟨TR.put_ne _ _ _, (h5 e).2⟩⟩, fun z hz _ => hz⟩
   ·rename_i hpn
    split
    ·rename_i hnp
     have hx := zcv hnp (fun e => hne e)
     split
     ·rename_i hb
      rw [hb] at hx
      exact ⟨⟨trivial, hv', trivial, hx, fun e => absurd e ho⟩, fun z hz hzn => hzn⟩
     ·rename_i hb
      have hb' : zbH p n.length = false := by simpa using hb
      rw [hb'] at hx
      exact ⟨⟨hv', trivial, hx, trivial, fun e => absurd e ho⟩, fun z hz hzn => hzn⟩
    ·rename_i hnp
     obtain ⟨f1, f2, f3⟩ := fork_bits hpn hnp
     have leaf : (TR.nd n o .nil .nil).valid := ⟨trivial, trivial, trivial, trivial, fun e => absurd e ho⟩
     split
     ·rename_i hb
      rw [hb] at f2 f3
      rw [f3] at f1
      exact ⟨⟨hv', leaf, f1, f2, fun _ => ⟨qz, qz⟩⟩, fun z hz hzn => zeC hz hzn⟩
     ·rename_i hb
      have hb' : zbH n (lcpL p n).length = false := by simpa using hb
      rw [hb'] at f2 f3
      rw [f3] at f1
      exact ⟨⟨leaf, hv', f2, f1, fun _ => ⟨qz, qz⟩⟩, fun z hz hzn => zeC hz hzn⟩
def notK (n : Key) (l : List (Key × Own)) : List (Key × Own) := l.filter fun x => !decide (x.1 = n)
theorem zez (n : Key) (a b : List (Key × Own)) : notK n (a ++ b) = notK n a ++ notK n b := qbX ..
theorem zdT {n : Key} {l : List (Key × Own)} (h : ∀ x ∈ l, x.1 ≠ n) : notK n l = l := qbE.2 fun x hx => by simp [h x hx]
theorem zeX {p : Key} {o : Own} (h : o ≠ noOwn) : ownP p o = [(p, o)] := by unfold ownP; rw [if_neg h]
theorem ownP_no (p : Key) : ownP p noOwn = [] := by unfold ownP; rw [if_pos rfl]
theorem TR.put_pairs : ∀ {t : TR} {n : Key} {o : Own}, t.valid → o ≠ noOwn → (t.put n o).pairs.Perm ((n, o) :: notK n t.pairs)
 | .nil, n, o, _, ho => by simp [TR.put, TR.pairs, zeX ho, notK]
 | .nd p q l r, n, o, hv, ho => by
  have hroot := TR.root_pre hv
  obtain ⟨h1, h2, h3, h4, h5⟩ := hv
  have bl : ∀ x ∈ l.pairs, p ++ [false] <+: x.1 := TR.pairs_below h1 h3
  have br : ∀ x ∈ r.pairs, p ++ [true] <+: x.1 := TR.pairs_below h2 h4
  rw [TR.put]
  split
  ·rename_i e; subst e
   have e1 : notK p (ownP p q) = [] := by unfold notK ownP; split <;> simp
   rw [TR.pairs, TR.pairs, zez, zez, e1, zdT fun x hx => zdE (bl x hx), zdT fun x hx => zdE (br x hx), zeX ho]
   exact List.Perm.refl _
  ·rename_i hne
   have e0 : notK n (ownP p q) = ownP p q := zdT fun x hx => by obtain ⟨rfl, _⟩ := zgB hx; exact hne
   split
   ·rename_i hpn
    have hx := zcv hpn (fun e => hne e.symm)
    split
    ·rename_i hb
     rw [hb] at hx
     have el : notK n l.pairs = l.pairs := zdT fun x hx2 e => by
      have := zc2 (bl x hx2)
      rw [e, zc2 hx] at this; cases this
     rw [TR.pairs, TR.pairs, zez, zez, e0, el]
     have ih := TR.put_pairs (n := n) (o := o) h2 ho
     refine ((List.Perm.append_left _ (List.Perm.append_left _ ih))).trans ?_
     rw [← qaY, ← qaY]
     exact List.perm_middle
    ·rename_i hb
     have hb' : zbH n p.length = false := by simpa using hb
     rw [hb'] at hx
     have er : notK n r.pairs = r.pairs := zdT fun x hx2 e => by
      have := zc2 (br x hx2)
      rw [e, zc2 hx] at this; cases this
     rw [TR.pairs, TR.pairs, zez, zez, e0, er]
     have ih := TR.put_pairs (n := n) (o := o) h1 ho
     refine ((List.Perm.append_left _ (List.Perm.append_right _ ih))).trans ?_
     rw [qa2]
     exact List.perm_middle
   ·rename_i hpn
    have hall : notK n (TR.nd p q l r).pairs = (TR.nd p q l r).pairs := zdT fun x hx e => hpn (by rw [← e]; exact hroot x hx)
    split
    ·split
     ·rw [hall, TR.pairs, zeX ho]
      simp [TR.pairs]
     ·rw [hall, TR.pairs, zeX ho]
      simp [TR.pairs]
    ·split
     ·rw [hall, TR.pairs, ownP_no]
      simp only [qbc]
      rw [show (TR.nd n o .nil .nil).pairs = [(n, o)] by simp [TR.pairs, zeX ho]]
      exact List.perm_append_singleton _ _
     ·rw [hall, TR.pairs, ownP_no]
      simp only [qbc]
      rw [show (TR.nd n o .nil .nil).pairs = [(n, o)] by simp [TR.pairs, zeX ho]]
      exact List.Perm.refl _
def TR.isNil : TR → Bool
 | .nil => true
 | _ => false
theorem TR.isNil_iff {t : TR} : t.isNil = true ↔ t = .nil := by cases t <;> simp [TR.isNil]
def TR.pick (p : Key) (o : Own) (l r : TR) : TR := if o ≠ noOwn ∨ (l.isNil = false ∧ r.isNil = false) then .nd p o l r else if l.isNil = false then l else r
def TR.strip (is : Key → Own → Bool) : TR → TR
 | .nil => .nil
 | .nd p o l r => TR.pick p (if is p o = true then noOwn else o) (l.strip is) (r.strip is)
def TR.find : TR → Key → Own → Own
 | .nil, _, a => a
 | .nd p o l r, n, a => if p <+: n then (if p = n then (if o ≠ noOwn then o else a) else if zbH n p.length = true then r.find n (if o ≠ noOwn then o else a) else l.find n (if o ≠ noOwn then o else a)) else a
end Go.Proofs.YtlfjpippeeikdaaGreatDoor
namespace Go.Proofs.YtlfjpippeeikdaaGreatDoor
open Tryz
open Go.RowKit Go.Sort
set_option maxRecDepth 100000
theorem bitLenAux_le (f : Nat) : ∀ (x j : Nat), x < 2 ^ f → (Lib.bitLenAux f x ≤ j ↔ x < 2 ^ j) := by
 induction f with
 | zero => intro x j hx; have : x = 0 := by simpa using hx
           subst this; simp [Lib.bitLenAux, qbq]
 | succ f ih =>
  intro x j hx
  by_cases h0 : x = 0
  ·subst h0; simp [Lib.bitLenAux, qbq]
  ·simp only [Lib.bitLenAux, h0, if_false]
   cases j with
   | zero => simp; omega
   | succ j =>
    have h := ih (x / 2) j (by rw [qb5] at hx; omega)
    rw [qb5]
    constructor
    ·intro h1; have := h.1 qk; omega
    ·intro h1; have := h.2 qk; omega
theorem bitLen_le (x j : Nat) (hx : x < 2 ^ 64) : Lib.bitLen x ≤ j ↔ x < 2 ^ j := bitLenAux_le 64 x j hx
def lcp (a b : Int) : Int := 32 - (Lib.bitLen (a.toNat ^^^ b.toNat) : Int)
theorem lcp_bd (a b : Int) (h2 : 0 ≤ a) (h3 : a < 4294967296) (h4 : 0 ≤ b) (h5 : b < 4294967296) : 0 ≤ lcp a b ∧ lcp a b ≤ 32 := by
 unfold lcp
 have hx : a.toNat ^^^ b.toNat < 2 ^ 32 := Nat.xor_lt_two_pow qk qk
 have := (bitLen_le (a.toNat ^^^ b.toNat) 32 qk).2 hx
 omega
theorem zgQ (a b k : Int) (h2 : 0 ≤ a) (h3 : a < 4294967296) (h4 : 0 ≤ b) (h5 : b < 4294967296) (hk0 : 0 ≤ k) (hk1 : k ≤ 32) : topI b k = topI a k ↔ k ≤ lcp a b := by
 obtain ⟨x, rfl⟩ := qaU h2
 obtain ⟨y, rfl⟩ := qaU h4
 unfold lcp topI
 obtain ⟨j, hj⟩ : ∃ j : Nat, (32 - k).toNat = j := ⟨_, rfl⟩
 rw [hj]
 have hx : x ^^^ y < 2 ^ 32 := Nat.xor_lt_two_pow qk qk
 have h := bitLen_le (x ^^^ y) j qk
 have e1 : k ≤ 32 - (Lib.bitLen ((x : Int).toNat ^^^ (y : Int).toNat) : Int) ↔ x ^^^ y < 2 ^ j := by
  rw [← h]; simp only [qaS]; omega
 rw [e1, zbV]
 have key : (x ^^^ y < 2 ^ j) ↔ y / 2 ^ j = x / 2 ^ j := by
  rw [← Nat.div_eq_zero_iff_lt (qbq j), ← Nat.shiftRight_eq_div_pow, ← Nat.shiftRight_eq_div_pow, ← Nat.shiftRight_eq_div_pow, Nat.shiftRight_xor_distrib]
  constructor
  ·intro h
   have := congrArg (fun z => z ^^^ (y >>> j)) h
   simp [Nat.xor_assoc] at this
   exact this.symm
  ·intro h; rw [h, Nat.xor_self]
 rw [key]
 have d1 := Nat.div_add_mod x (2 ^ j)
 have d2 := Nat.div_add_mod y (2 ^ j)
 have m1 : ((x : Int) % ((2 ^ j : Nat) : Int)) = ((x % 2 ^ j : Nat) : Int) := qz
 have m2 : ((y : Int) % ((2 ^ j : Nat) : Int)) = ((y % 2 ^ j : Nat) : Int) := qz
 rw [m1, m2]
 have l1 := Nat.mod_lt x (qbq j)
 have l2 := Nat.mod_lt y (qbq j)
 constructor
 ·intro h
  have h' : 2 ^ j * (y / 2 ^ j) = 2 ^ j * (x / 2 ^ j) := qk
  exact Nat.eq_of_mul_eq_mul_left (qbq j) h'
 ·intro h
  rw [h] at d2
  omega
def joinE (a n b m : Int) : Int := if zap a n = 0 then zap b m else zap a n
def joinN (a n b m : Int) : Int := if joinE a n b m = 0 then min (min n m) (lcp a b) else 0
def joinA (a n b m : Int) : Int := if joinE a n b m = 0 then topI a (min (min n m) (lcp a b)) else 0
theorem zfJ (a k : Int) (h2 : 0 ≤ a) (hk0 : 0 ≤ k) (hk1 : k ≤ 32) : zap (topI a k) k = 0 := by
 have hn : ¬ (k < 0 ∨ 32 < k) := qk
 unfold zap
 rw [if_neg hn]
 have : topI a k % 2 ^ (32 - k).toNat = 0 := by
  unfold topI
  have hq := zcI (32 - k).toNat
  generalize (2 : Int) ^ (32 - k).toNat = p at hq
  rw [Int.sub_emod, Int.emod_emod, Int.sub_self, Int.zero_emod]
 rw [if_pos this]
theorem holds_top (a n b m k : Int) (h2 : 0 ≤ a) (h3 : a < 4294967296) (h4 : 0 ≤ b) (h5 : b < 4294967296) (hk0 : 0 ≤ k) (hk1 : k ≤ 32) (hf : zap b m = 0) :
 zby (topI a k) k b m = decide (k ≤ m ∧ k ≤ lcp a b) := by
 have h := zgQ a b k h2 h3 h4 h5 hk0 hk1
 unfold zby zc4
 rw [hf, zfJ a k h2 hk0 hk1]
 simp [h]
theorem lcp_self (a : Int) : lcp a a = 32 := by
 unfold lcp
 rw [Nat.xor_self]
 rfl
theorem a_min3 {P : Program} {d : Option Tmp} {ty : TypeId} {pos : String} {af : Array Edge} {g : Option (Nat × Bool)} {x y z : Operand} {ts : Array TypeId} {k k' k'' : IntKind} {a b c : Int} : AOp P ⟨d, .call { callee := .builtin .min, args := #[x, y, z], argTypes := ts }, ty, pos, af, g⟩ [.p (.v (.int k a)), .p (.v (.int k' b)), .p (.v (.int k'' c))] [] [] (.p (.v (.int k (min (min a b) c)))) :=
 zaD fun S m w ev hr => by
  obtain ⟨h1, h2, h3⟩ := zg3 (u := ev x) (v := ev y) (t := ev z) hr
  refine ⟨.int k (min (min a b) c), ?_, za3 rfl⟩
  have e : (if b < a then b else a) = min a b := by split <;> omega
  have e2 : (if c < min a b then c else min a b) = min (min a b) c := by split <;> omega
  simp [execOp, resolve, invoke, builtin, Builtin.min_, Builtin.min2, zba h1, zba h2, zba h3, e, e2]
theorem lz_s (a b : Int) (h2 : 0 ≤ a) (h3 : a < 4294967296) (h4 : 0 ≤ b) (h5 : b < 4294967296) : Fn prog 156 [qe ((a.toNat ^^^ b.toNat : Nat) : Int)] (qd (lcp a b)) [] := by
 have hx : a.toNat ^^^ b.toNat < 2 ^ 32 := Nat.xor_lt_two_pow qk qk
 exact zfv (vs := [.int .u32 ((a.toNat ^^^ b.toNat : Nat) : Int)]) rfl (fun _ _ _ => za3 rfl) (fun w => (Tryz.bits_LeadingZeros32 _ w qk qk).mono fun _ _ h => ⟨h.1, h.2 ▸ Below.refl _ _⟩)
theorem nJoin_s (a n b m : Int) (hf : zap a n = 0) (hg : zap b m = 0) (h2 : 0 ≤ a) (h3 : a < 4294967296) (h4 : 0 ≤ b) (h5 : b < 4294967296) : Fn prog 112 [.agg (netA a n), .agg (netA b m)] (.tup [.agg (netA (topI a (min (min n m) (lcp a b))) (min (min n m) (lcp a b))), qd 0]) [] := by
 have hC1 := zcK a n h2 h3
 have hC2 := zcK b m h4 h5
 have hZ := lz_s a b h2 h3 h4 h5
 have hl := lcp_bd a b h2 h3 h4 h5
 have hn := zb5 hf
 have hm := zb5 hg
 have hO := nOf_s a (min (min n m) (lcp a b)) qk qk h2 h3
 rw [hf] at hC1
 rw [hg] at hC2
 have hX : bits .xor .u32 a b = ((a.toNat ^^^ b.toNat : Nat) : Int) := u32_xor a b h2 h3 h4 h5
 generalize topI a (min (min n m) (lcp a b)) = t at *
 generalize ((a.toNat ^^^ b.toNat : Nat) : Int) = x at *
 generalize lcp a b = l at *
 refine fnI fun w0 A => ?_
 refine G [12] ?_
 refine jdY (zfI underlying212 zr212 rfl sz82 rfl) ?_
 refine G [3] ?_
 refine zae (fun k st => ∃ i : Nat, k + i = 2 ∧ st = St.of [(2, .ref 2 0), (3, .ref 3 0), (4, .ref 4 0), (11, .agg [qe a, qd n, qe b, qd m]), (12, qd i)] [(2, .box 82 (netA a n)), (3, .box 82 (netA b m)), (4, .box 82 (netA 0 0))]) 2 ?_ ?_
 ·refine ⟨_, zad id _ _ ?_ ?_ rfl, 0, qk, rfl⟩
  ·(repeat (first | exact trivial | (refine ⟨⟨qu, rfl⟩, ?_⟩)))
  ·exact ⟨⟨rfl, rfl⟩, ⟨rfl, rfl⟩, ⟨rfl, rfl⟩, trivial⟩
 rintro k st ⟨i, hi, rfl⟩
 refine G [5] ?_
 refine cX ?_ ?_ <;> intro h
 ·have hlt : i < 2 := by simp at h; omega
  clear h
  obtain ⟨y, z, hy, hK⟩ : ∃ y z : Int, (([qe a, qd n, qe b, qd m] : List AV).drop (i * 2)).take 2 = netA y z ∧ Fn prog 75 [.agg (netA y z)] (qd 0) [] := by
   match i, hlt with
   | 0, _ => exact ⟨a, n, rfl, hC1⟩
   | 1, _ => exact ⟨b, m, rfl, hC2⟩
  refine G [5] ?_
  refine zaa (a_indexN underlying212 sz82 U82 rfl qk qk (show _ = netA y z by rw [qaS]; exact hy)) rfl rfl ?_
  refine G [6] ?_
  refine cK hK ?_
  refine G [5, 1, 7, 9, 0] ?_
  refine ⟨k - 1, qk, _, zad id _ _ ?_ ?_ rfl, i + 1, qk, rfl⟩
  ·(repeat (first | exact trivial | (refine ⟨⟨qu, rfl⟩, ?_⟩)))
  ·exact ⟨⟨rfl, rfl⟩, ⟨rfl, rfl⟩, ⟨rfl, rfl⟩, trivial⟩
 have hge : i = 2 := by simp at h; omega
 clear h
 subst hge
 refine G [13] ?_
 refine zaa (zgu qz hX) rfl rfl ?_
 refine cK hZ ?_
 refine jdY a_min3 ?_
 refine cK hO ?_
 refine G [6, 9, 0] ?_
 exact yE
theorem nrJoin_s (a n b m : Int) (hf : zap a n = 0) (hg : zap b m = 0) (h2 : 0 ≤ a) (h3 : a < 4294967296) (h4 : 0 ≤ b) (h5 : b < 4294967296) : Fn prog 87 [.agg (netA a n), .agg (netA b m)] (.tup [.agg (netA (topI a (min (min n m) (lcp a b))) (min (min n m) (lcp a b))), qd 0]) [] := by
 have hC1 := zdD a n h2 h3
 have hC2 := zdD b m h4 h5
 have hl := lcp_bd a b h2 h3 h4 h5
 have hn := zb5 hf
 have hm := zb5 hg
 obtain ⟨K, hK⟩ : ∃ K : Nat, min (min n m) (lcp a b) = (K : Int) := ⟨(min (min n m) (lcp a b)).toNat, qk⟩
 rw [hK]
 rw [hf] at hC1
 rw [hg] at hC2
 have hO := fun (k : Nat) (h : k ≤ 32) => nrOf_s a k qk qk h2 h3
 have hA := fun (k : Nat) (h : k ≤ 32) => nrHolds_s (topI a k) k a n (zfJ a k h2 qk qk) hf (zfK a k h2).1 (by have := zfK a k h2; omega) h2 h3
 have hB := fun (k : Nat) (h : k ≤ 32) => nrHolds_s (topI a k) k b m (zfJ a k h2 qk qk) hg (zfK a k h2).1 (by have := zfK a k h2; omega) h4 h5
 have eA := fun (k : Nat) (h : k ≤ 32) => holds_top a n a n k h2 h3 h2 h3 qk qk hf
 have eB := fun (k : Nat) (h : k ≤ 32) => holds_top a n b m k h2 h3 h4 h5 qk qk hg
 rw [lcp_self] at eA
 refine fnI fun w0 A => ?_
 refine G [11] ?_
 refine cK hC1 ?_
 refine G [5, 1, 7] ?_
 refine cK hC2 ?_
 refine G [5, 1, 8] ?_
 refine zae (fun j st => ∃ k : Nat, j + K = k ∧ k ≤ 32 ∧ st = St.of [(2, .ref 2 0), (3, .ref 3 0), (4, .ref 4 0), (8, qd k)] [(2, .box 82 (netA a n)), (3, .box 82 (netA b m)), (4, .box 82 (netA 0 0))]) (32 - K) ?_ ?_
 ·refine ⟨_, zad id _ _ ?_ ?_ rfl, 32, qk, qk, rfl⟩
  ·(repeat (first | exact trivial | (refine ⟨⟨qu, rfl⟩, ?_⟩)))
  ·exact ⟨⟨rfl, rfl⟩, ⟨rfl, rfl⟩, ⟨rfl, rfl⟩, trivial⟩
 rintro j st ⟨k, hj, hk, rfl⟩
 have hO := hO k hk
 have hA := hA k hk
 have hB := hB k hk
 rw [eA k hk] at hA
 rw [eB k hk] at hB
 by_cases h1 : k = K
 ·subst h1
  rw [decide_eq_true (show (k : Int) ≤ n ∧ (k : Int) ≤ 32 by omega)] at hA
  rw [decide_eq_true (show (k : Int) ≤ m ∧ (k : Int) ≤ lcp a b by omega)] at hB
  generalize topI a k = t at *
  refine G [3] ?_
  skip
  refine G [4] ?_
  refine cK hO ?_
  refine G [11] ?_
  refine cK hA ?_
  refine G [3] ?_
  refine cK hB ?_
  refine G [10, 9, 0] ?_
  exact yE
 by_cases h3 : (k : Int) ≤ n
 ·rw [decide_eq_true (show (k : Int) ≤ n ∧ (k : Int) ≤ 32 by omega)] at hA
  rw [decide_eq_false (show ¬ ((k : Int) ≤ m ∧ (k : Int) ≤ lcp a b) by omega)] at hB
  generalize topI a k = t at *
  refine G [3] ?_
  skip
  refine G [4] ?_
  refine cK hO ?_
  refine G [11] ?_
  refine cK hA ?_
  refine G [3] ?_
  refine cK hB ?_
  refine G [6] ?_
  refine zaa (zgf (show _ = ((k - 1 : Nat) : Int) by rw [qa6 _ (by omega)]; omega)) rfl rfl ?_
  refine G [2, 9, 0] ?_
  refine ⟨j - 1, qk, _, zad id _ _ ?_ ?_ rfl, k - 1, qk, qk, rfl⟩
  ·(repeat (first | exact trivial | (refine ⟨⟨qu, rfl⟩, ?_⟩)))
  ·exact ⟨⟨rfl, rfl⟩, ⟨rfl, rfl⟩, ⟨rfl, rfl⟩, trivial⟩
 rw [decide_eq_false (show ¬ ((k : Int) ≤ n ∧ (k : Int) ≤ 32) by omega)] at hA
 generalize topI a k = t at *
 refine G [3] ?_
 skip
 refine G [4] ?_
 refine cK hO ?_
 refine G [11] ?_
 refine cK hA ?_
 refine G [10] ?_
 refine zaa (zgf (show _ = ((k - 1 : Nat) : Int) by rw [qa6 _ (by omega)]; omega)) rfl rfl ?_
 refine G [2, 9, 0] ?_
 refine ⟨j - 1, qk, _, zad id _ _ ?_ ?_ rfl, k - 1, qk, qk, rfl⟩
 ·(repeat (first | exact trivial | (refine ⟨⟨qu, rfl⟩, ?_⟩)))
 ·exact ⟨⟨rfl, rfl⟩, ⟨rfl, rfl⟩, ⟨rfl, rfl⟩, trivial⟩
end Go.Proofs.YtlfjpippeeikdaaGreatDoor
