/- Used. -/
import Derived.Lib.BitFns
import Derived.WalkLawsBesides
import Derived.Test.YtlfjpippeeikdaaGreatDoorSFz
import Derived.Deep.QuietTactic
import Derived.BigQuiet
set_option maxRecDepth 100000
set_option maxHeartbeats 16000000
set_option linter.all false
namespace Go.Proofs.YtlfjpippeeikdaaGreatDoor
abbrev Key := List Bool
abbrev Own := ByteArray
abbrev noOwn : ByteArray := ⟨#[]⟩
def zbN (k : Key) (i : Nat) : Bool := k.getD i false
theorem pre_antisymm {a b : Key} (h : a <+: b) (k : b <+: a) : a = b := h.eq_of_length (Nat.le_antisymm h.length_le k.length_le)
theorem pre_total {a b c : Key} (h : a <+: c) (k : b <+: c) : a <+: b ∨ b <+: a := List.prefix_or_prefix_of_prefix h k
theorem zcD {p k : Key} (h : p <+: k) (hne : k ≠ p) : p ++ [zbN k p.length] <+: k := by
 obtain ⟨t, rfl⟩ := h
 cases t with
 | nil => simp at hne
 | cons b t =>
  refine ⟨t, ?_⟩
  simp [zbN]
theorem zde {p k : Key} {b : Bool} (h : p ++ [b] <+: k) : zbN k p.length = b := by
 obtain ⟨t, rfl⟩ := h
 simp [zbN]
theorem zd3 {p k : Key} {b : Bool} (h : p ++ [b] <+: k) : p <+: k := List.IsPrefix.trans (List.prefix_append _ _) h
theorem zdP {p k : Key} {b : Bool} (h : p ++ [b] <+: k) : k ≠ p := fun e => by
 have := h.length_le
 rw [e] at this
 simp only [qbg, List.length_singleton] at this
 omega
theorem pre_part {p z a b : Key} (ha : p ++ [false] <+: a) (hb : p ++ [true] <+: b) (h1 : z <+: a) (h2 : z <+: b) : z <+: p := by
 rcases pre_total h1 ha with h | h
 ·rcases pre_total h2 hb with k | k
  ·by_cases hl : z.length ≤ p.length
   ·have := List.prefix_of_prefix_length_le h1 (zd3 ha) hl
    exact this
   ·have e1 : z = p ++ [false] := h.eq_of_length (by have := h.length_le; simp at this ⊢; omega)
    have e2 : z = p ++ [true] := k.eq_of_length (by have := k.length_le; simp at this ⊢; omega)
    rw [e1] at e2; simp at e2
  ·have := zde (k.trans h1)
   rw [zde ha] at this; cases this
 ·have := zde (h.trans h2)
  rw [zde hb] at this; cases this
def lcpL : Key → Key → Key
 | a :: l, b :: r => if a = b then a :: lcpL l r else []
 | _, _ => []
theorem zdh : ∀ l r : Key, lcpL l r <+: l
 | [], r => by cases r <;> simp [lcpL]
 | a :: l, [] => by simp [lcpL]
 | a :: l, b :: r => by
  simp only [lcpL]
  split
  ·exact qcD.2 ⟨rfl, zdh l r⟩
  ·exact List.nil_prefix
theorem zc6 : ∀ l r : Key, lcpL l r <+: r
 | [], r => by cases r <;> simp [lcpL]
 | a :: l, [] => by simp [lcpL]
 | a :: l, b :: r => by
  simp only [lcpL]
  split
  ·rename_i h; subst h; exact qcD.2 ⟨rfl, zc6 l r⟩
  ·exact List.nil_prefix
theorem zeL : ∀ {p l r : Key}, p <+: l → p <+: r → p <+: lcpL l r
 | [], l, r, _, _ => List.nil_prefix
 | x :: p, [], r, h, _ => by have := h.length_le; simp at this
 | x :: p, a :: l, [], _, h => by have := h.length_le; simp at this
 | x :: p, a :: l, b :: r, h, k => by
  obtain ⟨rfl, h'⟩ := qcD.1 h
  obtain ⟨rfl, k'⟩ := qcD.1 k
  simp only [lcpL, if_true]
  exact qcD.2 ⟨rfl, zeL h' k'⟩
def zhE (p : Key) (l : List Key) : Key := l.foldl lcpL p
theorem zgq : ∀ (l : List Key) (p : Key), zhE p l <+: p
 | [], p => List.prefix_refl _
 | q :: l, p => (zgq l (lcpL p q)).trans (zdh p q)
theorem joinK_mem : ∀ (l : List Key) (p : Key), ∀ q ∈ l, zhE p l <+: q
 | [], p, q, h => by cases h
 | x :: l, p, q, h => by
  rcases qbm.1 h with rfl | h
  ·exact (zgq l (lcpL p q)).trans (zc6 p q)
  ·exact joinK_mem l _ q h
theorem joinK_max : ∀ {l : List Key} {p x : Key}, x <+: p → (∀ q ∈ l, x <+: q) → x <+: zhE p l
 | [], p, x, h, _ => h
 | q :: l, p, x, h, k => joinK_max (l := l) (zeL h (k q qC)) fun r hr => k r (by simp [hr])
def zaV : List (Key × Own) → Key
 | [] => []
 | x :: l => zhE x.1 ((x :: l).map Prod.fst)
theorem zd6 {l : List (Key × Own)} : ∀ x ∈ l, zaV l <+: x.1 := by
 intro x hx
 cases l with
 | nil => cases hx
 | cons y l => exact joinK_mem _ _ _ (qbo.2 ⟨x, hx, rfl⟩)
theorem zhF {l : List (Key × Own)} {z : Key} (hne : l ≠ []) (h : ∀ x ∈ l, z <+: x.1) : z <+: zaV l := by
 cases l with
 | nil => exact absurd rfl hne
 | cons y l =>
  refine joinK_max (h y qC) fun q hq => ?_
  obtain ⟨x, hx, rfl⟩ := qbo.1 hq
  exact h x hx
inductive TR where
 | nil
 | nd (p : Key) (o : Own) (l r : TR)
def TR.under (q : Key) : TR → Prop
 | .nil => True
 | .nd p _ _ _ => q <+: p
def TR.valid : TR → Prop
 | .nil => True
 | .nd p o l r => l.valid ∧ r.valid ∧ l.under (p ++ [false]) ∧ r.under (p ++ [true]) ∧ (o = noOwn → l ≠ .nil ∧ r ≠ .nil)
def ownP (p : Key) (o : Own) : List (Key × Own) := if o = noOwn then [] else [(p, o)]
def TR.pairs : TR → List (Key × Own)
 | .nil => []
 | .nd p o l r => ownP p o ++ (l.pairs ++ r.pairs)
abbrev Nd := Key × Own × Nat
def TR.nodes : TR → List Nd
 | .nil => []
 | .nd p o l r => (p, o, 1 + (l.nodes ++ r.nodes).length) :: (l.nodes ++ r.nodes)
theorem zg4 {p : Key} {o : Own} {x : Key × Own} (h : x ∈ ownP p o) : x = (p, o) ∧ o ≠ noOwn := by
 unfold ownP at h
 split at h
 ·cases h
 ·exact ⟨by simpa using h, qaf⟩
theorem TR.pairs_below : ∀ {t : TR} {q : Key}, t.valid → t.under q → ∀ x ∈ t.pairs, q <+: x.1
 | .nil, q, _, _, x, h => by cases h
 | .nd p o l r, q, hv, hb, x, h => by
  obtain ⟨h1, h2, h3, h4, h5⟩ := hv
  simp only [TR.pairs, qbz] at h
  rcases h with h | h | h
  ·obtain ⟨rfl, _⟩ := zg4 h; exact hb
  ·exact List.IsPrefix.trans hb (zd3 (TR.pairs_below h1 h3 x h))
  ·exact List.IsPrefix.trans hb (zd3 (TR.pairs_below h2 h4 x h))
theorem TR.pairs_ne : ∀ {t : TR}, t.valid → t ≠ .nil → ∃ x, x ∈ t.pairs
 | .nil, _, h => absurd rfl h
 | .nd p o l r, hv, _ => by
  obtain ⟨h1, h2, h3, h4, h5⟩ := hv
  by_cases ho : o = noOwn
  ·obtain ⟨x, hx⟩ := TR.pairs_ne h1 (h5 ho).1
   exact ⟨x, by simp [TR.pairs, hx]⟩
  ·exact ⟨(p, o), by simp [TR.pairs, ownP, ho]⟩
theorem TR.root_max {p : Key} {o : Own} {l r : TR} {z : Key} (hv : (TR.nd p o l r).valid) (h : ∀ x ∈ (TR.nd p o l r).pairs, z <+: x.1) : z <+: p := by
 obtain ⟨h1, h2, h3, h4, h5⟩ := hv
 by_cases ho : o = noOwn
 ·obtain ⟨x, hx⟩ := TR.pairs_ne h1 (h5 ho).1
  obtain ⟨y, hy⟩ := TR.pairs_ne h2 (h5 ho).2
  exact pre_part (TR.pairs_below h1 h3 x hx) (TR.pairs_below h2 h4 y hy) (h x qaP) (h y (by simp [TR.pairs, hy]))
 ·exact h (p, o) (by simp [TR.pairs, ownP, ho])
theorem TR.root_pre {p : Key} {o : Own} {l r : TR} (hv : (TR.nd p o l r).valid) : ∀ x ∈ (TR.nd p o l r).pairs, p <+: x.1 := TR.pairs_below hv (List.prefix_refl _)
def zdC (top : Key) (l : List (Key × Own)) : Own := l.foldl (fun o x => if x.1 = top then x.2 else o) noOwn
theorem zgd {top : Key} {o : Own} : ∀ (l : List (Key × Own)) (a : Own), (∀ x ∈ l, x.1 = top → x.2 = o) → (a = o ∨ ∃ x ∈ l, x.1 = top) → l.foldl (fun o x => if x.1 = top then x.2 else o) a = o
 | [], a, _, h => by
  rcases h with h | ⟨x, hx, _⟩
  ·exact h
  ·cases hx
 | y :: l, a, h, k => by
  rw [List.foldl_cons]
  refine zgd l _ (fun x hx => h x qba) ?_
  by_cases hy : y.1 = top
  ·rw [if_pos hy]; exact .inl (h y qC hy)
  ·rw [if_neg hy]
   rcases k with k | ⟨x, hx, hxt⟩
   ·exact .inl k
   ·rcases qbm.1 hx with rfl | hx
    ·exact absurd hxt hy
    ·exact .inr ⟨x, hx, hxt⟩
def zaU (top : Key) (b : Bool) (l : List (Key × Own)) : List (Key × Own) := l.filter fun x => !decide (x.1 = top) && (zbN x.1 top.length == b)
theorem zhp {top : Key} {b : Bool} {l : List (Key × Own)} {x : Key × Own} : x ∈ zaU top b l ↔ x ∈ l ∧ x.1 ≠ top ∧ zbN x.1 top.length = b := by
 simp [zaU, qcq]
def zbm : Nat → List (Key × Own) → List Nd
 | _, [] => []
 | 0, _ :: _ => []
 | n + 1, x :: l =>
  (zaV (x :: l), zdC (zaV (x :: l)) (x :: l), 1 + (zbm n (zaU (zaV (x :: l)) false (x :: l)) ++ zbm n (zaU (zaV (x :: l)) true (x :: l))).length) ::
   (zbm n (zaU (zaV (x :: l)) false (x :: l)) ++ zbm n (zaU (zaV (x :: l)) true (x :: l)))
theorem TR.join_root {p : Key} {o : Own} {l r : TR} (hv : (TR.nd p o l r).valid) {L : List (Key × Own)} (hp : L.Perm (TR.nd p o l r).pairs) : zaV L = p := by
 have hne : L ≠ [] := by
  obtain ⟨x, hx⟩ := TR.pairs_ne hv qC
  intro e; subst e
  exact absurd (hp.mem_iff.2 hx) qC
 refine pre_antisymm (TR.root_max hv fun x hx => zd6 x (hp.mem_iff.2 hx)) (zhF hne fun x hx => TR.root_pre hv x (hp.mem_iff.1 hx))
theorem TR.own_root {p : Key} {o : Own} {l r : TR} (hv : (TR.nd p o l r).valid) {L : List (Key × Own)} (hp : L.Perm (TR.nd p o l r).pairs) : zdC p L = o := by
 obtain ⟨h1, h2, h3, h4, h5⟩ := hv
 have key : ∀ x ∈ L, x.1 = p → x.2 = o := fun x hx e => by
  have := hp.mem_iff.1 hx
  simp only [TR.pairs, qbz] at this
  rcases this with h | h | h
  ·obtain ⟨rfl, _⟩ := zg4 h; rfl
  ·exact absurd e (zdP (TR.pairs_below h1 h3 x h))
  ·exact absurd e (zdP (TR.pairs_below h2 h4 x h))
 by_cases ho : o = noOwn
 ·exact zgd L _ key (.inl ho.symm)
 ·exact zgd L _ key (.inr ⟨(p, o), hp.mem_iff.2 (by simp [TR.pairs, ownP, ho]), rfl⟩)
theorem sideL_pairs {p : Key} {o : Own} {l r : TR} (hv : (TR.nd p o l r).valid) : zaU p false (TR.nd p o l r).pairs = l.pairs ∧ zaU p true (TR.nd p o l r).pairs = r.pairs := by
 obtain ⟨h1, h2, h3, h4, h5⟩ := hv
 have e0 : ∀ b, zaU p b (ownP p o) = [] := fun b => by
  unfold zaU ownP
  split <;> simp
 have full : ∀ (t : TR) (b : Bool), t.valid → t.under (p ++ [b]) → zaU p b t.pairs = t.pairs := fun t b hv hb => by
  refine qci.2 fun x hx => ?_
  have := TR.pairs_below hv hb x hx
  simp [zdP this, zde this]
 have none : ∀ (t : TR) (b : Bool), t.valid → t.under (p ++ [b]) → zaU p (!b) t.pairs = [] := fun t b hv hb => by
  refine List.filter_eq_nil_iff.2 fun x hx => ?_
  have := TR.pairs_below hv hb x hx
  simp [zde this]
 have app : ∀ b (x y : List (Key × Own)), zaU p b (x ++ y) = zaU p b x ++ zaU p b y := fun b x y => qcA ..
 constructor
 ·rw [TR.pairs, app, app, e0, full l false h1 h3, show zaU p false r.pairs = [] from none r true h2 h4]; simp
 ·rw [TR.pairs, app, app, e0, full r true h2 h4, show zaU p true l.pairs = [] from none l false h1 h3]; simp
theorem zfi : ∀ {t : TR} {L : List (Key × Own)} {n : Nat}, t.valid → L.Perm t.pairs → L.length ≤ n → zbm n L = t.nodes
 | .nil, L, n, _, hp, _ => by
  obtain rfl : L = [] := List.Perm.eq_nil hp
  cases n <;> rfl
 | .nd p o l r, L, n, hv, hp, hn => by
  have hj := TR.join_root hv hp
  have ho := TR.own_root hv hp
  have hs := sideL_pairs hv
  have p1 : (zaU p false L).Perm l.pairs := by rw [← hs.1]; exact hp.filter _
  have p2 : (zaU p true L).Perm r.pairs := by rw [← hs.2]; exact hp.filter _
  have hlen := hp.length_eq
  match L, n, hn with
  | [], _, _ =>
   obtain ⟨x, hx⟩ := TR.pairs_ne hv qC
   exact absurd (hp.mem_iff.2 hx) qC
  | x :: L, 0, hn => simp at hn
  | x :: L, n + 1, hn =>
   have hlp := p1.length_eq
   have hrp := p2.length_eq
   have hlt : l.pairs.length + r.pairs.length ≤ n + 1 := by
    simp only [TR.pairs, qbg] at hlen; simp only [qbs] at hn hlen; omega
   have hl1 : (zaU p false (x :: L)).length ≤ n ∧ (zaU p true (x :: L)).length ≤ n := by
    rw [hlp, hrp]
    obtain ⟨h1, h2, h3, h4, h5⟩ := hv
    by_cases hoo : o = noOwn
    ·obtain ⟨y, hy⟩ := TR.pairs_ne h1 (h5 hoo).1
     obtain ⟨z, hz⟩ := TR.pairs_ne h2 (h5 hoo).2
     have := List.length_pos_of_mem hy
     have := List.length_pos_of_mem hz
     omega
    ·have : (ownP p o).length = 1 := by unfold ownP; rw [if_neg hoo]; rfl
     simp only [TR.pairs, qbg] at hlen; simp only [qbs] at hn hlen
     omega
   rw [zbm, hj, ho, zfi hv.1 p1 hl1.1, zfi hv.2.1 p2 hl1.2]
   rfl
def TR.put : TR → Key → Own → TR
 | .nil, n, o => .nd n o .nil .nil
 | .nd p q l r, n, o =>
  if p = n then .nd n o l r
  else if p <+: n then (if zbN n p.length = true then .nd p q l (r.put n o) else .nd p q (l.put n o) r)
  else if n <+: p then (if zbN p n.length = true then .nd n o .nil (.nd p q l r) else .nd n o (.nd p q l r) .nil)
  else (if zbN n (lcpL p n).length = true then .nd (lcpL p n) noOwn (.nd p q l r) (.nd n o .nil .nil) else .nd (lcpL p n) noOwn (.nd n o .nil .nil) (.nd p q l r))
theorem TR.put_ne : ∀ (t : TR) (n : Key) (o : Own), t.put n o ≠ .nil
 | .nil, n, o => by simp [TR.put]
 | .nd p q l r, n, o => by
  rw [TR.put]
  split
  ·simp
  ·split
   ·split <;> simp
   ·split
    ·split <;> simp
    ·split <;> simp
theorem fork_bits {p n : Key} (h1 : ¬ p <+: n) (h2 : ¬ n <+: p) : lcpL p n ++ [zbN p (lcpL p n).length] <+: p ∧ lcpL p n ++ [zbN n (lcpL p n).length] <+: n ∧ zbN p (lcpL p n).length = !zbN n (lcpL p n).length := by
 have a1 := zcD (zdh p n) (fun e => h1 (by have h := zc6 p n; rw [← e] at h; exact h))
 have a2 := zcD (zc6 p n) (fun e => h2 (by have h := zdh p n; rw [← e] at h; exact h))
 refine ⟨a1, a2, ?_⟩
 cases hb : zbN p (lcpL p n).length <;> cases hc : zbN n (lcpL p n).length <;> try rfl
 all_goals
  exfalso
  rw [hb] at a1
  rw [hc] at a2
  have := (zeL a1 a2).length_le
  simp only [qbg, List.length_singleton] at this
  omega
theorem TR.put_valid : ∀ {t : TR} {n : Key} {o : Own}, t.valid → o ≠ noOwn → (t.put n o).valid ∧ ∀ q, t.under q → q <+: n → (t.put n o).under q
 | .nil, n, o, _, ho => ⟨⟨trivial, trivial, trivial, trivial, fun e => absurd e ho⟩, fun q _ h => h⟩
 | .nd p q l r, n, o, hv, ho => by
  have hv' := hv
  obtain ⟨h1, h2, h3, h4, h5⟩ := hv
  rw [TR.put]
  split
  ·rename_i e; subst e
   exact ⟨⟨h1, h2, h3, h4, fun e => absurd e ho⟩, fun z hz _ => hz⟩
  ·rename_i hne
   split
   ·rename_i hpn
    have hx := zcD hpn (fun e => hne e.symm)
    split
    ·rename_i hb
     rw [hb] at hx
     obtain ⟨k1, k2⟩ := TR.put_valid (n := n) h2 ho
     exact ⟨⟨h1, k1, h3, k2 _ h4 hx, fun e => ⟨(h5 e).1, TR.put_ne _ _ _⟩⟩, fun z hz _ => hz⟩
    ·rename_i hb
     have hb' : zbN n p.length = false := qa5
     rw [hb'] at hx
     obtain ⟨k1, k2⟩ := TR.put_valid (n := n) h1 ho
     exact ⟨⟨k1, h2, k2 _ h3 hx, h4, fun e => ⟨TR.put_ne _ _ _, (h5 e).2⟩⟩, fun z hz _ => hz⟩
   ·rename_i hpn
    split
    ·rename_i hnp
     have hx := zcD hnp (fun e => hne e)
     split
     ·rename_i hb
      rw [hb] at hx
      exact ⟨⟨trivial, hv', trivial, hx, fun e => absurd e ho⟩, fun z hz hzn => hzn⟩
     ·rename_i hb
      have hb' : zbN p n.length = false := qa5
      rw [hb'] at hx
      exact ⟨⟨hv', trivial, hx, trivial, fun e => absurd e ho⟩, fun z hz hzn => hzn⟩
    ·rename_i hnp
     obtain ⟨f1, f2, f3⟩ := fork_bits hpn hnp
     have leaf : (TR.nd n o .nil .nil).valid := ⟨trivial, trivial, trivial, trivial, fun e => absurd e ho⟩
     split
     ·rename_i hb
      rw [hb] at f2 f3
      rw [f3] at f1
      exact ⟨⟨hv', leaf, f1, f2, fun _ => ⟨qC, qC⟩⟩, fun z hz hzn => zeL hz hzn⟩
     ·rename_i hb
      have hb' : zbN n (lcpL p n).length = false := qa5
      rw [hb'] at f2 f3
      rw [f3] at f1
      exact ⟨⟨leaf, hv', f2, f1, fun _ => ⟨qC, qC⟩⟩, fun z hz hzn => zeL hz hzn⟩
def notK (n : Key) (l : List (Key × Own)) : List (Key × Own) := l.filter fun x => !decide (x.1 = n)
theorem zeJ (n : Key) (a b : List (Key × Own)) : notK n (a ++ b) = notK n a ++ notK n b := qcA ..
theorem zd4 {n : Key} {l : List (Key × Own)} (h : ∀ x ∈ l, x.1 ≠ n) : notK n l = l := qci.2 fun x hx => by simp [h x hx]
theorem zfd {p : Key} {o : Own} (h : o ≠ noOwn) : ownP p o = [(p, o)] := by unfold ownP; rw [if_neg h]
theorem ownP_no (p : Key) : ownP p noOwn = [] := by unfold ownP; rw [if_pos rfl]
theorem TR.put_pairs : ∀ {t : TR} {n : Key} {o : Own}, t.valid → o ≠ noOwn → (t.put n o).pairs.Perm ((n, o) :: notK n t.pairs)
 | .nil, n, o, _, ho => by simp [TR.put, TR.pairs, zfd ho, notK]
 | .nd p q l r, n, o, hv, ho => by
  have hroot := TR.root_pre hv
  obtain ⟨h1, h2, h3, h4, h5⟩ := hv
  have bl : ∀ x ∈ l.pairs, p ++ [false] <+: x.1 := TR.pairs_below h1 h3
  have br : ∀ x ∈ r.pairs, p ++ [true] <+: x.1 := TR.pairs_below h2 h4
  rw [TR.put]
  split
  ·rename_i e; subst e
   have e1 : notK p (ownP p q) = [] := by unfold notK ownP; split <;> simp
   rw [TR.pairs, TR.pairs, zeJ, zeJ, e1, zd4 fun x hx => zdP (bl x hx), zd4 fun x hx => zdP (br x hx), zfd ho]
   exact List.Perm.refl _
  ·rename_i hne
   have e0 : notK n (ownP p q) = ownP p q := zd4 fun x hx => by obtain ⟨rfl, _⟩ := zg4 hx; exact hne
   split
   ·rename_i hpn
    have hx := zcD hpn (fun e => hne e.symm)
    split
    ·rename_i hb
     rw [hb] at hx
     have el : notK n l.pairs = l.pairs := zd4 fun x hx2 e => by
      have := zde (bl x hx2)
      rw [e, zde hx] at this; cases this
     rw [TR.pairs, TR.pairs, zeJ, zeJ, e0, el]
     have ih := TR.put_pairs (n := n) (o := o) h2 ho
     refine ((List.Perm.append_left _ (List.Perm.append_left _ ih))).trans ?_
     rw [← qbB, ← qbB]
     exact List.perm_middle
    ·rename_i hb
     have hb' : zbN n p.length = false := qa5
     rw [hb'] at hx
     have er : notK n r.pairs = r.pairs := zd4 fun x hx2 e => by
      have := zde (br x hx2)
      rw [e, zde hx] at this; cases this
     rw [TR.pairs, TR.pairs, zeJ, zeJ, e0, er]
     have ih := TR.put_pairs (n := n) (o := o) h1 ho
     refine ((List.Perm.append_left _ (List.Perm.append_right _ ih))).trans ?_
     rw [qbG]
     exact List.perm_middle
   ·rename_i hpn
    have hall : notK n (TR.nd p q l r).pairs = (TR.nd p q l r).pairs := zd4 fun x hx e => hpn (by rw [← e]; exact hroot x hx)
    split
    ·split
     ·rw [hall, TR.pairs, zfd ho]
      simp [TR.pairs]
     ·rw [hall, TR.pairs, zfd ho]
      simp [TR.pairs]
    ·split
     ·rw [hall, TR.pairs, ownP_no]
      simp only [qbK]
      rw [show (TR.nd n o .nil .nil).pairs = [(n, o)] by simp [TR.pairs, zfd ho]]
      exact List.perm_append_singleton _ _
     ·rw [hall, TR.pairs, ownP_no]
      simp only [qbK]
      rw [show (TR.nd n o .nil .nil).pairs = [(n, o)] by simp [TR.pairs, zfd ho]]
      exact List.Perm.refl _
def TR.isNil : TR → Bool
 | .nil => true
 | _ => false
theorem TR.isNil_iff {t : TR} : t.isNil = true ↔ t = .nil := by cases t <;> simp [TR.isNil]
def TR.pick (p : Key) (o : Own) (l r : TR) : TR := if o ≠ noOwn ∨ (l.isNil = false ∧ r.isNil = false) then .nd p o l r else if l.isNil = false then l else r
def TR.strip (is : Key → Own → Bool) : TR → TR
 | .nil => .nil
 | .nd p o l r => TR.pick p (if is p o = true then noOwn else o) (l.strip is) (r.strip is)
def TR.find : TR → Key → Own → Own
 | .nil, _, a => a
 | .nd p o l r, n, a => if p <+: n then (if p = n then (if o ≠ noOwn then o else a) else if zbN n p.length = true then r.find n (if o ≠ noOwn then o else a) else l.find n (if o ≠ noOwn then o else a)) else a
open Tryz
open Go.RowKit
open Go.Sort
theorem bitLenAux_le (f : Nat) : ∀ (x j : Nat), x < 2 ^ f → (Lib.bitLenAux f x ≤ j ↔ x < 2 ^ j) := by
 induction f with
 | zero => intro x j hx; have : x = 0 := by simpa using hx
           subst this; simp [Lib.bitLenAux, qb3]
 | succ f ih =>
  intro x j hx
  by_cases h0 : x = 0
  ·subst h0; simp [Lib.bitLenAux, qb3]
  ·simp only [Lib.bitLenAux, h0, if_false]
   cases j with
   | zero => simp; omega
   | succ j =>
    have h := ih (x / 2) j (by rw [qcC] at hx; omega)
    rw [qcC]
    constructor
    ·intro h1; have := h.1 qp; omega
    ·intro h1; have := h.2 qp; omega
theorem bitLen_le (x j : Nat) (hx : x < 2 ^ 64) : Lib.bitLen x ≤ j ↔ x < 2 ^ j := bitLenAux_le 64 x j hx
def lcp (a b : Int) : Int := 32 - (Lib.bitLen (a.toNat ^^^ b.toNat) : Int)
theorem lcp_bd (a b : Int) (h2 : 0 ≤ a) (h3 : a < 4294967296) (h4 : 0 ≤ b) (h5 : b < 4294967296) : 0 ≤ lcp a b ∧ lcp a b ≤ 32 := by
 unfold lcp
 have hx : a.toNat ^^^ b.toNat < 2 ^ 32 := Nat.xor_lt_two_pow qp qp
 have := (bitLen_le (a.toNat ^^^ b.toNat) 32 qp).2 hx
 omega
theorem zhg (a b k : Int) (h2 : 0 ≤ a) (h3 : a < 4294967296) (h4 : 0 ≤ b) (h5 : b < 4294967296) (hk0 : 0 ≤ k) (hk1 : k ≤ 32) : topI b k = topI a k ↔ k ≤ lcp a b := by
 obtain ⟨x, rfl⟩ := qbw h2
 obtain ⟨y, rfl⟩ := qbw h4
 unfold lcp topI
 obtain ⟨j, hj⟩ : ∃ j : Nat, (32 - k).toNat = j := ⟨_, rfl⟩
 rw [hj]
 have hx : x ^^^ y < 2 ^ 32 := Nat.xor_lt_two_pow qp qp
 have h := bitLen_le (x ^^^ y) j qp
 have e1 : k ≤ 32 - (Lib.bitLen ((x : Int).toNat ^^^ (y : Int).toNat) : Int) ↔ x ^^^ y < 2 ^ j := by
  rw [← h]; simp only [qbx]; omega
 rw [e1, zb1]
 have key : (x ^^^ y < 2 ^ j) ↔ y / 2 ^ j = x / 2 ^ j := by
  rw [← Nat.div_eq_zero_iff_lt (qb3 j), ← Nat.shiftRight_eq_div_pow, ← Nat.shiftRight_eq_div_pow, ← Nat.shiftRight_eq_div_pow, Nat.shiftRight_xor_distrib]
  constructor
  ·intro h
   have := congrArg (fun z => z ^^^ (y >>> j)) h
   simp [Nat.xor_assoc] at this
   exact this.symm
  ·intro h; rw [h, Nat.xor_self]
 rw [key]
 have d1 := Nat.div_add_mod x (2 ^ j)
 have d2 := Nat.div_add_mod y (2 ^ j)
 have m1 : ((x : Int) % ((2 ^ j : Nat) : Int)) = ((x % 2 ^ j : Nat) : Int) := qC
 have m2 : ((y : Int) % ((2 ^ j : Nat) : Int)) = ((y % 2 ^ j : Nat) : Int) := qC
 rw [m1, m2]
 have l1 := Nat.mod_lt x (qb3 j)
 have l2 := Nat.mod_lt y (qb3 j)
 constructor
 ·intro h
  have h' : 2 ^ j * (y / 2 ^ j) = 2 ^ j * (x / 2 ^ j) := qp
  exact Nat.eq_of_mul_eq_mul_left (qb3 j) h'
 ·intro h
  rw [h] at d2
  omega
def joinE (a n b m : Int) : Int := if zan a n = 0 then zan b m else zan a n
def joinN (a n b m : Int) : Int := if joinE a n b m = 0 then min (min n m) (lcp a b) else 0
def joinA (a n b m : Int) : Int := if joinE a n b m = 0 then topI a (min (min n m) (lcp a b)) else 0
theorem zf5 (a k : Int) (h2 : 0 ≤ a) (hk0 : 0 ≤ k) (hk1 : k ≤ 32) : zan (topI a k) k = 0 := by
 have hn : ¬ (k < 0 ∨ 32 < k) := qp
 unfold zan
 rw [if_neg hn]
 have : topI a k % 2 ^ (32 - k).toNat = 0 := by
  unfold topI
  have hq := zcS (32 - k).toNat
  generalize (2 : Int) ^ (32 - k).toNat = p at hq
  rw [Int.sub_emod, Int.emod_emod, Int.sub_self, Int.zero_emod]
 rw [if_pos this]
theorem holds_top (a n b m k : Int) (h2 : 0 ≤ a) (h3 : a < 4294967296) (h4 : 0 ≤ b) (h5 : b < 4294967296) (hk0 : 0 ≤ k) (hk1 : k ≤ 32) (hf : zan b m = 0) :
 zbB (topI a k) k b m = decide (k ≤ m ∧ k ≤ lcp a b) := by
 have h := zhg a b k h2 h3 h4 h5 hk0 hk1
 unfold zbB zdf
 rw [hf, zf5 a k h2 hk0 hk1]
 simp [h]
theorem lcp_self (a : Int) : lcp a a = 32 := by
 unfold lcp
 rw [Nat.xor_self]
 rfl
theorem a_min3 {P : Program} {d : Option Tmp} {ty : TypeId} {pos : String} {af : Array Edge} {g : Option (Nat × Bool)} {x y z : Operand} {ts : Array TypeId} {k k' k'' : IntKind} {a b c : Int} : AOp P ⟨d, .call { callee := .builtin .min, args := #[x, y, z], argTypes := ts }, ty, pos, af, g⟩ [.p (.v (.int k a)), .p (.v (.int k' b)), .p (.v (.int k'' c))] [] [] (.p (.v (.int k (min (min a b) c)))) :=
 zaC fun S m w ev hr => by
  obtain ⟨h1, h2, h3⟩ := zhu (u := ev x) (v := ev y) (t := ev z) hr
  refine ⟨.int k (min (min a b) c), ?_, za1 rfl⟩
  have e : (if b < a then b else a) = min a b := by split <;> omega
  have e2 : (if c < min a b then c else min a b) = min (min a b) c := by split <;> omega
  simp [execOp, resolve, invoke, builtin, Builtin.min_, Builtin.min2, za8 h1, za8 h2, za8 h3, e, e2]
theorem lz_s (a b : Int) (h2 : 0 ≤ a) (h3 : a < 4294967296) (h4 : 0 ≤ b) (h5 : b < 4294967296) : Fn prog 156 [qe ((a.toNat ^^^ b.toNat : Nat) : Int)] (qd (lcp a b)) [] := by
 have hx : a.toNat ^^^ b.toNat < 2 ^ 32 := Nat.xor_lt_two_pow qp qp
 exact zfS (vs := [.int .u32 ((a.toNat ^^^ b.toNat : Nat) : Int)]) rfl (fun _ _ _ => za1 rfl) (fun w => (Tryz.bits_LeadingZeros32 _ w qp qp).mono fun _ _ h => ⟨h.1, h.2 ▸ Below.refl _ _⟩)
theorem nJoin_s (a n b m : Int) (hf : zan a n = 0) (hg : zan b m = 0) (h2 : 0 ≤ a) (h3 : a < 4294967296) (h4 : 0 ≤ b) (h5 : b < 4294967296) : Fn prog 112 [.agg (netA a n), .agg (netA b m)] (.tup [.agg (netA (topI a (min (min n m) (lcp a b))) (min (min n m) (lcp a b))), qd 0]) [] := by
 have hC1 := zcp a n h2 h3
 have hC2 := zcp b m h4 h5
 have hZ := lz_s a b h2 h3 h4 h5
 have hl := lcp_bd a b h2 h3 h4 h5
 have hn := zbL hf
 have hm := zbL hg
 have hO := nOf_s a (min (min n m) (lcp a b)) qp qp h2 h3
 rw [hf] at hC1
 rw [hg] at hC2
 have hX : bits .xor .u32 a b = ((a.toNat ^^^ b.toNat : Nat) : Int) := u32_xor a b h2 h3 h4 h5
 generalize topI a (min (min n m) (lcp a b)) = t at *
 generalize ((a.toNat ^^^ b.toNat : Nat) : Int) = x at *
 generalize lcp a b = l at *
 refine fnI fun w0 A => ?_
 refine G [12] ?_
 refine jfb (zeR underlying212 zr212 rfl sz82 rfl) ?_
 refine G [3] ?_
 refine zac (fun k st => ∃ i : Nat, k + i = 2 ∧ st = St.of [(2, .ref 2 0), (3, .ref 3 0), (4, .ref 4 0), (11, .agg [qe a, qd n, qe b, qd m]), (12, qd i)] [(2, .box 82 (netA a n)), (3, .box 82 (netA b m)), (4, .box 82 (netA 0 0))]) 2 ?_ ?_
 ·refine ⟨_, zae id _ _ ?_ ?_ rfl, 0, qp, rfl⟩
  ·(repeat (first | exact trivial | (refine ⟨⟨qH, rfl⟩, ?_⟩)))
  ·exact ⟨⟨rfl, rfl⟩, ⟨rfl, rfl⟩, ⟨rfl, rfl⟩, trivial⟩
 rintro k st ⟨i, hi, rfl⟩
 refine G [5] ?_
 refine cX ?_ ?_ <;> intro h
 ·have hlt : i < 2 := qu
  clear h
  obtain ⟨y, z, hy, hK⟩ : ∃ y z : Int, (([qe a, qd n, qe b, qd m] : List AV).drop (i * 2)).take 2 = netA y z ∧ Fn prog 75 [.agg (netA y z)] (qd 0) [] := by
   match i, hlt with
   | 0, _ => exact ⟨a, n, rfl, hC1⟩
   | 1, _ => exact ⟨b, m, rfl, hC2⟩
  refine G [5] ?_
  refine zaa (a_indexN underlying212 sz82 U82 rfl qp qp (show _ = netA y z by rw [qbx]; exact hy)) rfl rfl ?_
  refine G [6] ?_
  refine cK hK ?_
  refine G [5, 1, 7, 9, 0] ?_
  refine ⟨k - 1, qp, _, zae id _ _ ?_ ?_ rfl, i + 1, qp, rfl⟩
  ·(repeat (first | exact trivial | (refine ⟨⟨qH, rfl⟩, ?_⟩)))
  ·exact ⟨⟨rfl, rfl⟩, ⟨rfl, rfl⟩, ⟨rfl, rfl⟩, trivial⟩
 have hge : i = 2 := qu
 clear h
 subst hge
 refine G [13] ?_
 refine zaa (zf4 qC hX) rfl rfl ?_
 refine cK hZ ?_
 refine jfb a_min3 ?_
 refine cK hO ?_
 refine G [6, 9, 0] ?_
 exact yE
theorem nrJoin_s (a n b m : Int) (hf : zan a n = 0) (hg : zan b m = 0) (h2 : 0 ≤ a) (h3 : a < 4294967296) (h4 : 0 ≤ b) (h5 : b < 4294967296) : Fn prog 87 [.agg (netA a n), .agg (netA b m)] (.tup [.agg (netA (topI a (min (min n m) (lcp a b))) (min (min n m) (lcp a b))), qd 0]) [] := by
 have hC1 := zcH a n h2 h3
 have hC2 := zcH b m h4 h5
 have hl := lcp_bd a b h2 h3 h4 h5
 have hn := zbL hf
 have hm := zbL hg
 obtain ⟨K, hK⟩ : ∃ K : Nat, min (min n m) (lcp a b) = (K : Int) := ⟨(min (min n m) (lcp a b)).toNat, qp⟩
 rw [hK]
 rw [hf] at hC1
 rw [hg] at hC2
 have hO := fun (k : Nat) (h : k ≤ 32) => nrOf_s a k qp qp h2 h3
 have hA := fun (k : Nat) (h : k ≤ 32) => nrHolds_s (topI a k) k a n (zf5 a k h2 qp qp) hf (zf6 a k h2).1 (by have := zf6 a k h2; omega) h2 h3
 have hB := fun (k : Nat) (h : k ≤ 32) => nrHolds_s (topI a k) k b m (zf5 a k h2 qp qp) hg (zf6 a k h2).1 (by have := zf6 a k h2; omega) h4 h5
 have eA := fun (k : Nat) (h : k ≤ 32) => holds_top a n a n k h2 h3 h2 h3 qp qp hf
 have eB := fun (k : Nat) (h : k ≤ 32) => holds_top a n b m k h2 h3 h4 h5 qp qp hg
 rw [lcp_self] at eA
 refine fnI fun w0 A => ?_
 refine G [11] ?_
 refine cK hC1 ?_
 refine G [5, 1, 7] ?_
 refine cK hC2 ?_
 refine G [5, 1, 8] ?_
 refine zac (fun j st => ∃ k : Nat, j + K = k ∧ k ≤ 32 ∧ st = St.of [(2, .ref 2 0), (3, .ref 3 0), (4, .ref 4 0), (8, qd k)] [(2, .box 82 (netA a n)), (3, .box 82 (netA b m)), (4, .box 82 (netA 0 0))]) (32 - K) ?_ ?_
 ·refine ⟨_, zae id _ _ ?_ ?_ rfl, 32, qp, qp, rfl⟩
  ·(repeat (first | exact trivial | (refine ⟨⟨qH, rfl⟩, ?_⟩)))
  ·exact ⟨⟨rfl, rfl⟩, ⟨rfl, rfl⟩, ⟨rfl, rfl⟩, trivial⟩
 rintro j st ⟨k, hj, hk, rfl⟩
 have hO := hO k hk
 have hA := hA k hk
 have hB := hB k hk
 rw [eA k hk] at hA
 rw [eB k hk] at hB
 by_cases h1 : k = K
 ·subst h1
  rw [decide_eq_true (show (k : Int) ≤ n ∧ (k : Int) ≤ 32 by omega)] at hA
  rw [decide_eq_true (show (k : Int) ≤ m ∧ (k : Int) ≤ lcp a b by omega)] at hB
  generalize topI a k = t at *
  refine G [3] ?_
  skip
  refine G [4] ?_
  refine cK hO ?_
  refine G [11] ?_
  refine cK hA ?_
  refine G [3] ?_
  refine cK hB ?_
  refine G [10, 9, 0] ?_
  exact yE
 by_cases h3 : (k : Int) ≤ n
 ·rw [decide_eq_true (show (k : Int) ≤ n ∧ (k : Int) ≤ 32 by omega)] at hA
  rw [decide_eq_false (show ¬ ((k : Int) ≤ m ∧ (k : Int) ≤ lcp a b) by omega)] at hB
  generalize topI a k = t at *
  refine G [3] ?_
  skip
  refine G [4] ?_
  refine cK hO ?_
  refine G [11] ?_
  refine cK hA ?_
  refine G [3] ?_
  refine cK hB ?_
  refine G [6] ?_
  refine zaa (zgD (show _ = ((k - 1 : Nat) : Int) by rw [qbM _ (by omega)]; omega)) rfl rfl ?_
  refine G [2, 9, 0] ?_
  refine ⟨j - 1, qp, _, zae id _ _ ?_ ?_ rfl, k - 1, qp, qp, rfl⟩
  ·(repeat (first | exact trivial | (refine ⟨⟨qH, rfl⟩, ?_⟩)))
  ·exact ⟨⟨rfl, rfl⟩, ⟨rfl, rfl⟩, ⟨rfl, rfl⟩, trivial⟩
 rw [decide_eq_false (show ¬ ((k : Int) ≤ n ∧ (k : Int) ≤ 32) by omega)] at hA
 generalize topI a k = t at *
 refine G [3] ?_
 skip
 refine G [4] ?_
 refine cK hO ?_
 refine G [11] ?_
 refine cK hA ?_
 refine G [10] ?_
 refine zaa (zgD (show _ = ((k - 1 : Nat) : Int) by rw [qbM _ (by omega)]; omega)) rfl rfl ?_
 refine G [2, 9, 0] ?_
 refine ⟨j - 1, qp, _, zae id _ _ ?_ ?_ rfl, k - 1, qp, qp, rfl⟩
 ·(repeat (first | exact trivial | (refine ⟨⟨qH, rfl⟩, ?_⟩)))
 ·exact ⟨⟨rfl, rfl⟩, ⟨rfl, rfl⟩, ⟨rfl, rfl⟩, trivial⟩
def valK (p : Key) : Nat := p.foldl (fun a b => 2 * a + b.toNat) 0
theorem valK_go (p : Key) (a : Nat) : p.foldl (fun a b => 2 * a + b.toNat) a = a * 2 ^ p.length + valK p := by
 unfold valK
 induction p generalizing a with
 | nil => simp
 | cons b p ih =>
  rw [List.foldl_cons, ih, List.foldl_cons, ih (2 * 0 + b.toNat), qbs, qcC, qcc]
  have e0 : 2 * 0 + b.toNat = b.toNat := qp
  rw [e0]
  have : 2 * a * 2 ^ p.length = a * (2 ^ p.length * 2) := by rw [qcK 2 a, Nat.mul_assoc, qcK 2]
  omega
theorem zeE (p q : Key) : valK (p ++ q) = valK p * 2 ^ q.length + valK q := by
 conv => lhs; unfold valK
 rw [qco]
 exact valK_go q _
theorem zgZ (b : Bool) : valK [b] = b.toNat := by simp [valK]
theorem ziH : ∀ p : Key, valK p < 2 ^ p.length := by
 intro p
 induction p with
 | nil => simp [valK]
 | cons b p ih =>
  have h := zeE [b] p
  rw [qcs, zgZ] at h
  rw [h, qbs, qcC]
  have : b.toNat * 2 ^ p.length ≤ 1 * 2 ^ p.length := qbL _ (by cases b <;> decide)
  omega
theorem ziI : ∀ {p q : Key}, p.length = q.length → valK p = valK q → p = q
 | [], [], _, _ => rfl
 | [], _ :: _, h, _ => by simp at h
 | _ :: _, [], h, _ => by simp at h
 | a :: p, b :: q, h, k => by
  have h' : p.length = q.length := qz
  have h1 := zeE [a] p
  have h2 := zeE [b] q
  rw [qcs, zgZ] at h1 h2
  rw [h1, h2, h'] at k
  have l1 := ziH p
  have l2 := ziH q
  rw [h'] at l1
  have hab : a = b := by
   cases a <;> cases b <;> simp at k ⊢ <;> omega
  subst hab
  rw [ziI h' (by omega)]
theorem valK_take (q : Key) (k : Nat) (h : k ≤ q.length) : valK (q.take k) = valK q / 2 ^ (q.length - k) := by
 have h1 := zeE (q.take k) (q.drop k)
 rw [qbQ, qby] at h1
 have h2 := ziH (q.drop k)
 rw [qby] at h2
 rw [h1, qcK, Nat.mul_add_div (qb3 _), Nat.div_eq_of_lt h2, qb0]
def zec (p : Key) : Nat := valK p * 2 ^ (32 - p.length)
def zav (p : Key) : Int := (zec p : Nat)
theorem addrN_lt (p : Key) (h : p.length ≤ 32) : zec p < 4294967296 := by
 have h1 := ziH p
 have h2 : valK p * 2 ^ (32 - p.length) < 2 ^ p.length * 2 ^ (32 - p.length) := Nat.mul_lt_mul_of_pos_right h1 (qb3 _)
 rw [← Nat.pow_add, show p.length + (32 - p.length) = 32 by omega] at h2
 exact h2
theorem zbl (p : Key) (h : p.length ≤ 32) : 0 ≤ zav p ∧ zav p < 4294967296 := by
 have := addrN_lt p h
 unfold zav; omega
theorem zh1 (q : Key) (k : Nat) (hq : q.length ≤ 32) (hk : k ≤ q.length) : zec q / 2 ^ (32 - k) = valK (q.take k) := by
 rw [valK_take q k hk, zec]
 have e : 32 - k = (q.length - k) + (32 - q.length) := qp
 rw [e, Nat.pow_add, qcK (2 ^ (q.length - k)), ← Nat.div_div_eq_div_mul, Nat.mul_div_cancel _ (qb3 _)]
theorem pow_toN (k : Nat) (hk : k ≤ 32) : ((2 : Int) ^ (32 - (k : Int)).toNat) = ((2 ^ (32 - k) : Nat) : Int) := by
 rw [show (32 - (k : Int)).toNat = 32 - k by omega]
 simp
theorem zfs (q : Key) (k : Nat) (hq : q.length ≤ 32) (hk : k ≤ q.length) : topI (zav q) k = zav (q.take k) := by
 unfold topI zav
 rw [pow_toN k (by omega)]
 have h1 := zh1 q k hq hk
 have h2 : zec (q.take k) = valK (q.take k) * 2 ^ (32 - k) := by unfold zec; rw [List.length_take, Nat.min_eq_left hk]
 have h3 := Nat.div_add_mod (zec q) (2 ^ (32 - k))
 rw [h2, ← h1, qcK]
 generalize zec q / 2 ^ (32 - k) = D at *
 generalize hM : 2 ^ (32 - k) = M at *
 have h4 : ((zec q : Nat) : Int) % ((M : Nat) : Int) = ((zec q % M : Nat) : Int) := qC
 rw [h4]
 have h5 : zec q % M ≤ zec q := Nat.mod_le _ _
 omega
theorem zbR (p : Key) (hp : p.length ≤ 32) : zan (zav p) p.length = 0 := by
 unfold zan
 rw [if_neg (by omega), if_pos]
 rw [pow_toN _ hp]
 unfold zav zec
 simp
theorem zh2 {p q : Key} (hp : p.length ≤ 32) (hl : p.length = q.length) (h : zav p = zav q) : p = q := by
 have h' : zec p = zec q := by unfold zav at h; omega
 unfold zec at h'
 rw [← hl] at h'
 exact ziI hl (Nat.eq_of_mul_eq_mul_right (qb3 _) h')
theorem pre_iff {p q : Key} : p <+: q ↔ p.length ≤ q.length ∧ q.take p.length = p := by
 constructor
 ·intro h; exact ⟨h.length_le, (List.prefix_iff_eq_take.1 h).symm⟩
 ·rintro ⟨_, h⟩; rw [← h]; exact List.take_prefix _ _
theorem top_pre (p q : Key) (hq : q.length ≤ 32) (hk : p.length ≤ q.length) : topI (zav q) p.length = zav p ↔ p <+: q := by
 rw [zfs q _ hq hk, pre_iff]
 constructor
 ·intro h
  have hl : (q.take p.length).length = p.length := qN
  exact ⟨hk, zh2 qp hl h⟩
 ·rintro ⟨_, h⟩; rw [h]
theorem holds_pre (p q : Key) (hp : p.length ≤ 32) (hq : q.length ≤ 32) : zbB (zav p) p.length (zav q) q.length = decide (p <+: q) := by
 unfold zbB zdf
 rw [zbR p hp, zbR q hq]
 simp only [true_and]
 by_cases hl : p.length ≤ q.length
 ·rw [show decide (((p.length : Nat) : Int) ≤ ((q.length : Nat) : Int)) = true by simp; omega, Bool.true_and]
  exact decide_eq_decide.2 (top_pre p q hq hl)
 ·rw [show decide (((p.length : Nat) : Int) ≤ ((q.length : Nat) : Int)) = false by simp; omega, Bool.false_and]
  symm
  rw [decide_eq_false_iff_not]
  intro h; exact hl h.length_le
def zh7 (a n : Nat) : Key := (List.range n).map fun i => decide (a / 2 ^ (31 - i) % 2 = 1)
theorem zfK (a n : Nat) : (zh7 a n).length = n := by simp [zh7]
theorem keyOf_val (a n : Nat) (ha : a < 4294967296) (hn : n ≤ 32) : valK (zh7 a n) = a / 2 ^ (32 - n) := by
 induction n with
 | zero =>
  rw [qcP, Nat.div_eq_of_lt ha]; rfl
 | succ n ih =>
  have e : zh7 a (n + 1) = zh7 a n ++ [decide (a / 2 ^ (31 - n) % 2 = 1)] := by simp [zh7, List.range_succ]
  rw [e, zeE, zgZ, ih (by omega), List.length_singleton, Nat.pow_one]
  rw [show 32 - (n + 1) = 31 - n by omega, show 32 - n = (31 - n) + 1 by omega, qcC, ← Nat.div_div_eq_div_mul]
  generalize a / 2 ^ (31 - n) = x
  by_cases h : x % 2 = 1
  ·rw [decide_eq_true h]; simp; omega
  ·rw [decide_eq_false h]; simp; omega
theorem net_key {a n : Int} (h0 : 0 ≤ a) (h1 : a < 4294967296) (hf : zan a n = 0) : ∃ p : Key, p.length ≤ 32 ∧ a = zav p ∧ n = p.length := by
 obtain ⟨n0, n1, hm⟩ := zbL hf
 obtain ⟨a, rfl⟩ := qbw h0
 obtain ⟨n, rfl⟩ := qbw n0
 refine ⟨zh7 a n, by rw [zfK]; omega, ?_, by rw [zfK]⟩
 have ha : a < 4294967296 := qp
 rw [pow_toN n (by omega)] at hm
 have hm' : a % 2 ^ (32 - n) = 0 := by
  have h4 : ((a : Nat) : Int) % ((2 ^ (32 - n) : Nat) : Int) = ((a % 2 ^ (32 - n) : Nat) : Int) := qC
  rw [h4] at hm; omega
 unfold zav zec
 rw [zfK, keyOf_val a n ha (by omega)]
 have := Nat.div_add_mod a (2 ^ (32 - n))
 rw [qcK] at this
 omega
theorem bit_key (q : Key) (i : Nat) (hq : q.length ≤ 32) (hi : i < q.length) : zav q / 2 ^ (31 - (i : Int)).toNat % 2 = if zbN q i = true then 1 else 0 := by
 have h1 := zh1 q (i + 1) hq qp
 rw [show (31 - (i : Int)).toNat = 32 - (i + 1) by omega]
 have h2 : zav q / 2 ^ (32 - (i + 1)) = ((zec q / 2 ^ (32 - (i + 1)) : Nat) : Int) := by unfold zav; simp
 rw [h2, h1, qbn hi, zeE, zgZ]
 have e : zbN q i = q[i] := by unfold zbN; rw [List.getD_eq_getElem?_getD, List.getElem?_eq_getElem hi]; rfl
 rw [e]
 cases q[i] <;> simp <;> omega
theorem lcpL_len_iff (p q : Key) (k : Nat) (h1 : k ≤ p.length) (h2 : k ≤ q.length) : k ≤ (lcpL p q).length ↔ p.take k = q.take k := by
 constructor
 ·intro h
  have a1 := List.prefix_iff_eq_take.1 (zdh p q)
  have a2 := List.prefix_iff_eq_take.1 (zc6 p q)
  have b1 : p.take k = (lcpL p q).take k := by conv => rhs; rw [a1]
                                               rw [qcH, Nat.min_eq_left h]
  have b2 : q.take k = (lcpL p q).take k := by conv => rhs; rw [a2]
                                               rw [qcH, Nat.min_eq_left h]
  rw [b1, b2]
 ·intro h
  have := (zeL (List.take_prefix k p) (by rw [h]; exact List.take_prefix k q)).length_le
  rw [List.length_take] at this
  omega
theorem join_key (p q : Key) (hp : p.length ≤ 32) (hq : q.length ≤ 32) : joinE (zav p) p.length (zav q) q.length = 0 ∧ joinN (zav p) p.length (zav q) q.length = (lcpL p q).length ∧ joinA (zav p) p.length (zav q) q.length = zav (lcpL p q) := by
 have hE : joinE (zav p) p.length (zav q) q.length = 0 := by unfold joinE; rw [if_pos (zbR p hp)]; exact zbR q hq
 obtain ⟨b0, b1⟩ := zbl p hp
 obtain ⟨b2, b3⟩ := zbl q hq
 obtain ⟨c0, c1⟩ := lcp_bd (zav p) (zav q) b0 b1 b2 b3
 have key : ∀ k : Nat, k ≤ p.length → k ≤ q.length → (k ≤ (lcpL p q).length ↔ (k : Int) ≤ lcp (zav p) (zav q)) := fun k h1 h2 => by
  rw [lcpL_len_iff p q k h1 h2, ← zhg (zav p) (zav q) k b0 b1 b2 b3 (by omega) (by omega), zfs p k hp h1, zfs q k hq h2]
  constructor
  ·intro h; rw [h]
  ·intro h
   exact (zh2 qN (by rw [List.length_take, List.length_take]; omega) h).symm
 have l1 := (zdh p q).length_le
 have l2 := (zc6 p q).length_le
 have hJ : min (min (p.length : Int) (q.length : Int)) (lcp (zav p) (zav q)) = ((lcpL p q).length : Int) := by
  have k1 := (key (lcpL p q).length l1 l2).1 (Nat.le_refl _)
  obtain ⟨J, hJ⟩ : ∃ J : Nat, min (min (p.length : Int) (q.length : Int)) (lcp (zav p) (zav q)) = (J : Int) := ⟨(min (min (p.length : Int) (q.length : Int)) (lcp (zav p) (zav q))).toNat, qp⟩
  have k2 := (key J qp qp).2 qp
  omega
 refine ⟨hE, ?_, ?_⟩
 ·unfold joinN; rw [if_pos hE, hJ]
 ·unfold joinA; rw [if_pos hE, hJ, zfs p _ hp l1, ← List.prefix_iff_eq_take.1 (zdh p q)]
structure ND where
 a : Int
 n : Int
 o : ByteArray
 s : Int
theorem ND.ext' {x y : ND} (h1 : x.a = y.a) (h2 : x.n = y.n) (h3 : x.o = y.o) (h4 : x.s = y.s) : x = y := by
 cases x; cases y; simp at h1 h2 h3 h4; subst h1; subst h2; subst h3; subst h4; rfl
def ND.pv (x : ND) : List PV := [qi x.a, qh x.n, qg x.o, qh x.s]
structure ND.OK (x : ND) : Prop where
 a0 : 0 ≤ x.a
 a1 : x.a < 4294967296
 n0 : -9223372036854775808 ≤ x.n
 n1 : x.n ≤ 9223372036854775807
 s0 : -9223372036854775808 ≤ x.s
 s1 : x.s ≤ 9223372036854775807
 oz : x.o.size ≤ 140737488351232
def ND.fault (x : ND) : Int := zan x.a x.n
def ND.key (x : ND) : Key := zh7 x.a.toNat x.n.toNat
def toND (x : Nd) : ND := ⟨zav x.1, x.1.length, x.2.1, x.2.2⟩
def TR.list (t : TR) : List ND := t.nodes.map toND
def TR.short : TR → Prop
 | .nil => True
 | .nd p _ l r => p.length ≤ 32 ∧ l.short ∧ r.short
theorem TR.list_nil : TR.nil.list = [] := rfl
theorem TR.list_nd (p : Key) (o : Own) (l r : TR) : (TR.nd p o l r).list = ⟨zav p, p.length, o, (((l.list ++ r.list).length + 1 : Nat) : Int)⟩ :: (l.list ++ r.list) := by
 simp only [TR.list, TR.nodes, qbj, qbF, toND, qbg, qbu]
 congr 2
 omega
theorem addr_key (p : Key) (hp : p.length ≤ 32) : zh7 (zav p).toNat ((p.length : Nat) : Int).toNat = p := by
 have h1 : (zav p).toNat = zec p := by unfold zav; omega
 rw [h1, qbx]
 refine ziI (zfK _ _) ?_
 rw [keyOf_val _ _ (addrN_lt p hp) hp, zh1 p _ hp (Nat.le_refl _), qbI]
theorem ND.keyed {x : ND} (h0 : 0 ≤ x.a) (h1 : x.a < 4294967296) (hf : x.fault = 0) : x.key.length ≤ 32 ∧ x.a = zav x.key ∧ x.n = (x.key.length : Int) := by
 obtain ⟨p, hp, ha, hn⟩ := net_key h0 h1 hf
 have : x.key = p := by unfold ND.key; rw [ha, hn]; exact addr_key p hp
 rw [this]; exact ⟨hp, ha, hn⟩
theorem TR.list_fault : ∀ {t : TR}, t.short → ∀ x ∈ t.list, x.fault = 0
 | .nil, _, x, h => by cases h
 | .nd p o l r, hs, x, h => by
  rw [TR.list_nd] at h
  rcases qbm.1 h with rfl | h
  ·exact zbR p hs.1
  ·rcases qbz.1 h with h | h
   ·exact TR.list_fault hs.2.1 x h
   ·exact TR.list_fault hs.2.2 x h
def zeW (p q : Key) : Bool := decide (p.length < q.length) && decide (p <+: q)
theorem ziB {p q : Key} : zeW p q = true ↔ p ++ [zbN q p.length] <+: q := by
 unfold zeW
 simp only [qbv, decide_eq_true_eq]
 constructor
 ·rintro ⟨h1, h2⟩
  exact zcD h2 fun e => by rw [e] at h1; omega
 ·intro h
  have h1 := h.length_le
  simp at h1
  exact ⟨qp, zd3 h⟩
def zd5 (g : List ND → Option (TR × List ND)) (p : Key) : Nat → TR → TR → List ND → Option (TR × TR)
 | _, k0, k1, [] => some (k0, k1)
 | 0, _, _, _ :: _ => none
 | m + 1, k0, k1, x :: l =>
  match g (x :: l) with
  | some (.nd q o a b, more) =>
   if zeW p q = true then
    if zbN q p.length = true then (if k1.isNil = true then zd5 g p m k0 (.nd q o a b) more else none)
    else (if k0.isNil = true ∧ k1.isNil = true then zd5 g p m (.nd q o a b) k1 more else none)
   else none
  | _ => none
def zgt (p : Key) (o : Own) (rest : List ND) : Option (TR × TR) → Option (TR × List ND)
 | none => none
 | some (k0, k1) => if o = noOwn ∧ (k0.isNil = true ∨ k1.isNil = true) then none else some (.nd p o k0 k1, rest)
theorem growTop_no {p : Key} {o : Own} {rest : List ND} {k0 k1 : TR} (h : o = noOwn ∧ (k0.isNil = true ∨ k1.isNil = true)) : zgt p o rest (some (k0, k1)) = none := by simp only [zgt]; rw [if_pos h]
theorem zhM {p : Key} {o : Own} {rest : List ND} {k0 k1 : TR} (h : ¬ (o = noOwn ∧ (k0.isNil = true ∨ k1.isNil = true))) : zgt p o rest (some (k0, k1)) = some (.nd p o k0 k1, rest) := by simp only [zgt]; rw [if_neg h]
def zds : Nat → List ND → Option (TR × List ND)
 | 0, _ => none
 | _ + 1, [] => none
 | n + 1, x :: l =>
  if x.s < 1 ∨ ((l.length + 1 : Nat) : Int) < x.s ∨ x.fault ≠ 0 then none
  else zgt x.key x.o (l.drop (x.s.toNat - 1)) (zd5 (zds n) x.key (l.take (x.s.toNat - 1)).length .nil .nil (l.take (x.s.toNat - 1)))
def GoodT (t : TR) : Prop := t.valid ∧ t.short ∧ t ≠ .nil
theorem zff {g : List ND → Option (TR × List ND)} {p : Key} (hg : ∀ l t rest, (∀ x ∈ l, x.OK) → g l = some (t, rest) → GoodT t ∧ l = t.list ++ rest) :
 ∀ {m : Nat} {k0 k1 : TR} {l : List ND} {r0 r1 : TR}, (∀ x ∈ l, x.OK) → zd5 g p m k0 k1 l = some (r0, r1) → (k0.valid ∧ k0.short ∧ k0.under (p ++ [false])) → (k1.valid ∧ k1.short ∧ k1.under (p ++ [true])) →
  (r0.valid ∧ r0.short ∧ r0.under (p ++ [false])) ∧ (r1.valid ∧ r1.short ∧ r1.under (p ++ [true])) ∧ k0.list ++ k1.list ++ l = r0.list ++ r1.list
 | m, k0, k1, [], r0, r1, _, h, h0, h1 => by
  cases m <;> (simp only [zd5, Option.some.injEq, Prod.mk.injEq] at h; obtain ⟨rfl, rfl⟩ := h; exact ⟨h0, h1, qC⟩)
 | 0, k0, k1, _ :: _, r0, r1, _, h, _, _ => by simp [zd5] at h
 | m + 1, k0, k1, x :: l, r0, r1, hok, h, h0, h1 => by
  simp only [zd5] at h
  split at h
  ·rename_i q o a b more hq
   obtain ⟨hgt, hl⟩ := hg _ _ _ hok hq
   have hmore : ∀ x ∈ more, x.OK := fun y hy => hok y (by rw [hl]; exact qbz.2 (.inr hy))
   split at h
   ·rename_i hb
    have hb' := ziB.1 hb
    split at h
    ·rename_i hbit
     rw [hbit] at hb'
     split at h
     ·rename_i hn
      rw [TR.isNil_iff] at hn
      subst hn
      obtain ⟨a1, a2, a3⟩ := zff hg hmore h h0 ⟨hgt.1, hgt.2.1, hb'⟩
      refine ⟨a1, a2, ?_⟩
      rw [← a3, hl, TR.list_nil]
      simp
     ·cases h
    ·rename_i hbit
     have hbit' : zbN q p.length = false := by simpa using hbit
     rw [hbit'] at hb'
     split at h
     ·rename_i hn
      rw [TR.isNil_iff, TR.isNil_iff] at hn
      obtain ⟨rfl, rfl⟩ := hn
      obtain ⟨a1, a2, a3⟩ := zff hg hmore h ⟨hgt.1, hgt.2.1, hb'⟩ h1
      refine ⟨a1, a2, ?_⟩
      rw [← a3, hl, TR.list_nil]
      simp
     ·cases h
   ·cases h
  ·cases h
theorem zd8 : ∀ {n : Nat} {l : List ND} {t : TR} {rest : List ND}, (∀ x ∈ l, x.OK) → zds n l = some (t, rest) → GoodT t ∧ l = t.list ++ rest
 | 0, l, t, rest, _, h => by simp [zds] at h
 | n + 1, [], t, rest, _, h => by simp [zds] at h
 | n + 1, x :: l, t, rest, hok, h => by
  simp only [zds] at h
  split at h
  ·cases h
  ·rename_i hc
   simp only [not_or, Int.not_lt] at hc
   obtain ⟨c1, c2, c3⟩ := hc
   have c3 : x.fault = 0 := qbk.1 c3
   cases hk : zd5 (zds n) x.key (l.take (x.s.toNat - 1)).length .nil .nil (l.take (x.s.toNat - 1)) with
   | none => rw [hk] at h; cases h
   | some r =>
    obtain ⟨k0, k1⟩ := r
    rw [hk] at h
    simp only [zgt] at h
    split at h
    ·cases h
    ·rename_i hn
     simp only [Option.some.injEq, Prod.mk.injEq] at h
     obtain ⟨rfl, rfl⟩ := h
     have hx := hok x qC
     obtain ⟨q1, q2, q3⟩ := ND.keyed hx.a0 hx.a1 c3
     have hmine : ∀ y ∈ l.take (x.s.toNat - 1), y.OK := fun y hy => hok y (qcx _ (qbT hy))
     obtain ⟨a1, a2, a3⟩ := zff (fun l t rest => zd8) hmine hk ⟨trivial, trivial, trivial⟩ ⟨trivial, trivial, trivial⟩
     simp only [TR.list_nil, qbK] at a3
     refine ⟨⟨⟨a1.1, a2.1, a1.2.2, a2.2.2, fun e => ?_⟩, ⟨q1, a1.2.1, a2.2.1⟩, qC⟩, ?_⟩
     ·simp only [not_and, not_or] at hn
      obtain ⟨u1, u2⟩ := hn e
      exact ⟨fun e => u1 (TR.isNil_iff.2 e), fun e => u2 (TR.isNil_iff.2 e)⟩
     ·rw [TR.list_nd, ← a3, qbG, qbQ]
      congr 1
      refine ND.ext' q2 q3 rfl ?_
      simp only [List.length_take]
      omega
theorem kidsF_one {g : List ND → Option (TR × List ND)} {p q : Key} {o : Own} {a b k0 k1 : TR} {m : Nat} {l more : List ND} (hl : l ≠ []) (hg : g l = some (.nd q o a b, more)) (hb : zeW p q = true) :
 zd5 g p (m + 1) k0 k1 l = if zbN q p.length = true then (if k1.isNil = true then zd5 g p m k0 (.nd q o a b) more else none) else (if k0.isNil = true ∧ k1.isNil = true then zd5 g p m (.nd q o a b) k1 more else none) := by
 cases l with
 | nil => exact absurd rfl hl
 | cons x l => simp only [zd5, hg, hb, if_true]
theorem zhD {g : List ND → Option (TR × List ND)} {p : Key} {m : Nat} {k0 k1 : TR} : zd5 g p m k0 k1 [] = some (k0, k1) := by cases m <;> simp [zd5]
theorem TR.list_ne {t : TR} (h : t ≠ .nil) : t.list ≠ [] := by
 cases t with
 | nil => exact absurd rfl h
 | nd p o l r => rw [TR.list_nd]; simp
theorem zhe {p : Key} {b : Bool} {q : Key} {o : Own} {l r : TR} (h : (TR.nd q o l r).under (p ++ [b])) : zeW p q = true ∧ zbN q p.length = b := by
 have hb : zbN q p.length = b := zde h
 exact ⟨ziB.2 (by rw [hb]; exact h), hb⟩
theorem zeM : ∀ {t : TR} {n : Nat} {rest : List ND}, GoodT t → t.list.length ≤ n → zds n (t.list ++ rest) = some (t, rest)
 | .nil, n, rest, h, _ => absurd rfl h.2.2
 | .nd p o l r, 0, rest, h, hn => by rw [TR.list_nd] at hn; simp at hn
 | .nd p o l r, n + 1, rest, h, hn => by
  obtain ⟨⟨v1, v2, v3, v4, v5⟩, ⟨s0, s1, s2⟩, _⟩ := h
  have hkey : ND.key ⟨zav p, p.length, o, (((l.list ++ r.list).length + 1 : Nat) : Int)⟩ = p := addr_key p s0
  have hf : ND.fault ⟨zav p, p.length, o, (((l.list ++ r.list).length + 1 : Nat) : Int)⟩ = 0 := zbR p s0
  have hlen : l.list.length + r.list.length ≤ n := by rw [TR.list_nd] at hn; simp at hn; exact hn
  have ht : ((l.list ++ r.list) ++ rest).take ((((l.list ++ r.list).length + 1 : Nat) : Int).toNat - 1) = l.list ++ r.list := by
   rw [show (((l.list ++ r.list).length + 1 : Nat) : Int).toNat - 1 = (l.list ++ r.list).length by omega, List.take_left']
   rfl
  have hd : ((l.list ++ r.list) ++ rest).drop ((((l.list ++ r.list).length + 1 : Nat) : Int).toNat - 1) = rest := by
   rw [show (((l.list ++ r.list).length + 1 : Nat) : Int).toNat - 1 = (l.list ++ r.list).length by omega, List.drop_left']
   rfl
  rw [TR.list_nd, qbG, zds, if_neg (by
   rintro (h | h | h)
   ·have h' : (((l.list ++ r.list).length + 1 : Nat) : Int) < 1 := h
    omega
   ·have h' : ((((l.list ++ r.list) ++ rest).length + 1 : Nat) : Int) < (((l.list ++ r.list).length + 1 : Nat) : Int) := h
    have e9 : ((l.list ++ r.list) ++ rest).length = (l.list ++ r.list).length + rest.length := qbg
    rw [e9] at h'
    omega
   ·exact h hf)]
  simp only [hkey, ht, hd]
  have hk : zd5 (zds n) p (l.list ++ r.list).length .nil .nil (l.list ++ r.list) = some (l, r) := by
   have hr : ∀ (m : Nat) (k0 : TR), r.list.length ≤ m → zd5 (zds n) p m k0 .nil r.list = some (k0, r) := fun m k0 hm => by
    cases r with
    | nil => rw [TR.list_nil]; exact zhD
    | nd q o' a b =>
     have hne : (TR.nd q o' a b).list ≠ [] := TR.list_ne qC
     obtain ⟨u1, u2⟩ := zhe v4
     have hg := zeM (t := .nd q o' a b) (n := n) (rest := []) ⟨v2, s2, qC⟩ qp
     rw [qbA] at hg
     cases m with
     | zero => exact absurd (qbt qp) hne
     | succ m => rw [kidsF_one hne hg u1, if_pos u2]; simp only [TR.isNil, if_true]; exact zhD
   cases l with
   | nil => rw [TR.list_nil, qbK]; exact hr _ _ (Nat.le_refl _)
   | nd q o' a b =>
    have hne : (TR.nd q o' a b).list ≠ [] := TR.list_ne qC
    obtain ⟨u1, u2⟩ := zhe v3
    have hg := zeM (t := .nd q o' a b) (n := n) (rest := r.list) ⟨v1, s1, qC⟩ qp
    have hpos := List.length_pos_iff.2 hne
    obtain ⟨m, hm⟩ : ∃ m, ((TR.nd q o' a b).list ++ r.list).length = m + 1 := ⟨((TR.nd q o' a b).list ++ r.list).length - 1, by rw [qbg]; omega⟩
    rw [hm, kidsF_one (by simp [hne]) hg u1, if_neg (by simp [u2])]
    simp only [TR.isNil, and_self, if_true]
    exact hr m _ (by rw [qbg] at hm; omega)
  rw [hk]
  refine zhM ?_
  rintro ⟨e, h⟩
  obtain ⟨w1, w2⟩ := v5 e
  rcases h with h | h
  ·exact w1 (TR.isNil_iff.1 h)
  ·exact w2 (TR.isNil_iff.1 h)
theorem side_pre {M : List (Key × Own)} {b : Bool} : ∀ x ∈ zaU (zaV M) b M, zaV M ++ [b] <+: x.1 := fun x hx => by
 obtain ⟨h1, h2, h3⟩ := zhp.1 hx
 rw [← h3]; exact zcD (zd6 x h1) h2
theorem side_lt {M : List (Key × Own)} (hM : M ≠ []) (b : Bool) : (zaU (zaV M) b M).length < M.length := by
 have hle : (zaU (zaV M) b M).length ≤ M.length := List.length_filter_le _ _
 rcases qcl (zaU (zaV M) b M).length M.length with h | h
 ·exact h
 ·exfalso
  have e : zaU (zaV M) b M = M := by
   have := List.filter_sublist (p := fun x : Key × Own => !decide (x.1 = zaV M) && (zbN x.1 (zaV M).length == b)) (l := M)
   exact this.eq_of_length (Nat.le_antisymm hle h)
  have hm : zaV M ++ [b] <+: zaV M := zhF hM fun x hx => side_pre x (by rw [e]; exact hx)
  have := hm.length_le
  simp only [qbg, List.length_singleton] at this
  omega
theorem ziL (top : Key) (M : List (Key × Own)) : (zaU top false M).length + (zaU top true M).length ≤ M.length := by
 induction M with
 | nil => simp [zaU]
 | cons x M ih =>
  unfold zaU at ih ⊢
  simp only [List.filter_cons]
  split <;> split <;> simp only [qbs] <;> first
   | omega
   | (rename_i h1 h2; simp only [qbv, beq_iff_eq] at h1 h2; rw [h1.2] at h2; exact absurd h2.2 qE)
theorem zdQ : ∀ (n : Nat) (M : List (Key × Own)), (zbm n M).length ≤ 2 * M.length - 1
 | 0, [] => by simp [zbm]
 | 0, _ :: _ => by simp [zbm]
 | _ + 1, [] => by simp [zbm]
 | n + 1, x :: l => by
  have h1 := zdQ n (zaU (zaV (x :: l)) false (x :: l))
  have h2 := zdQ n (zaU (zaV (x :: l)) true (x :: l))
  have h3 := ziL (zaV (x :: l)) (x :: l)
  have h4 := side_lt (M := x :: l) qC false
  have h5 := side_lt (M := x :: l) qC true
  simp only [zbm, qbs, qbg] at *
  omega
theorem joinAll_le {M : List (Key × Own)} {k : Nat} (h : ∀ x ∈ M, x.1.length ≤ k) : (zaV M).length ≤ k := by
 cases M with
 | nil => simp [zaV]
 | cons x M => exact qcd (zd6 (l := x :: M) x qC).length_le (h x qC)
def one (x : Key × Own) : ND := ⟨zav x.1, x.1.length, x.2, 1⟩
theorem TR.list_ok : ∀ {t : TR}, t.short → (∀ x ∈ t.pairs, x.2.size ≤ 140737488351232) → t.list.length ≤ 4611686018427387904 → ∀ x ∈ t.list, x.OK
 | .nil, _, _, _, x, h => by cases h
 | .nd p o l r, hs, ho, hz, x, h => by
  have hpo : o.size ≤ 140737488351232 := by
   by_cases e : o = noOwn
   ·subst e; decide
   ·exact ho (p, o) (by simp [TR.pairs, zfd e])
  rw [TR.list_nd] at h hz
  have hz' := hz
  simp only [qbs, qbg] at hz'
  rcases qbm.1 h with rfl | h
  ·obtain ⟨b0, b1⟩ := zbl p hs.1
   have := hs.1
   constructor <;> simp only [qbg] <;> omega
  ·rcases qbz.1 h with h | h
   ·exact TR.list_ok hs.2.1 (fun x hx => ho x qaP) qp x h
   ·exact TR.list_ok hs.2.2 (fun x hx => ho x qaP) qp x h
def isTrie (l : List ND) (t : TR) : Prop := t.valid ∧ t.short ∧ l = t.list
theorem TR.short_of : ∀ {t : TR}, t.valid → (∀ x ∈ t.pairs, x.1.length ≤ 32) → t.short
 | .nil, _, _ => trivial
 | .nd p o l r, hv, h => by
  obtain ⟨x, hx⟩ := TR.pairs_ne hv qC
  refine ⟨qcd (TR.root_pre hv x hx).length_le (h x hx), TR.short_of hv.1 fun x hx => h x qaP, TR.short_of hv.2.1 fun x hx => h x qaP⟩
theorem TR.pairs_short : ∀ {t : TR}, t.short → ∀ x ∈ t.pairs, x.1.length ≤ 32
 | .nil, _, x, h => by cases h
 | .nd p o l r, hs, x, h => by
  simp only [TR.pairs, qbz] at h
  rcases h with h | h | h
  ·obtain ⟨rfl, _⟩ := zg4 h; exact hs.1
  ·exact TR.pairs_short hs.2.1 x h
  ·exact TR.pairs_short hs.2.2 x h
def grownL (K : List (Key × Own)) : List ND := (zbm K.length K).map toND
theorem grownL_tree {t : TR} {K : List (Key × Own)} (hv : t.valid) (hp : K.Perm t.pairs) : grownL K = t.list := by
 unfold grownL; rw [zfi hv hp (Nat.le_refl _)]; rfl
theorem isTrie_grow {l : List ND} (hok : ∀ x ∈ l, x.OK) (hne : l ≠ []) : (∃ t, isTrie l t) ↔ ∃ t, zds l.length l = some (t, []) := by
 constructor
 ·rintro ⟨t, hv, hs, rfl⟩
  have := zeM (t := t) (n := t.list.length) (rest := []) ⟨hv, hs, fun e => by subst e; exact hne rfl⟩ (Nat.le_refl _)
  rw [qbA] at this
  exact ⟨t, this⟩
 ·rintro ⟨t, h⟩
  obtain ⟨⟨hv, hs, _⟩, hl⟩ := zd8 hok h
  exact ⟨t, hv, hs, by simpa using hl⟩
theorem put_short {t : TR} {n : Key} {o : Own} (hv : t.valid) (hs : t.short) (hn : n.length ≤ 32) (ho : o ≠ noOwn) : (t.put n o).short :=
 TR.short_of (TR.put_valid hv ho).1 fun x hx => by
  have := (TR.put_pairs (n := n) (o := o) hv ho).mem_iff.1 hx
  rcases qbm.1 this with rfl | h
  ·exact hn
  ·exact TR.pairs_short hs x ((qcq.1 h).1)
theorem rootOwn_take {top : Key} {M : List (Key × Own)} {i : Nat} {x : Key × Own} (h : M[i]? = some x) : zdC top (M.take (i + 1)) = if x.1 = top then x.2 else zdC top (M.take i) := by
 obtain ⟨hi, rfl⟩ := qbl.1 h
 unfold zdC
 rw [qbn hi, qco]; rfl
theorem zic {top : Key} {b : Bool} {M : List (Key × Own)} {i : Nat} {x : Key × Own} (h : M[i]? = some x) : zaU top b (M.take (i + 1)) = zaU top b (M.take i) ++ if x.1 ≠ top ∧ zbN x.1 top.length = b then [x] else [] := by
 obtain ⟨hi, rfl⟩ := qbl.1 h
 unfold zaU
 rw [qbn hi, qcA]
 congr 1
 simp only [List.filter_cons, List.filter_nil]
 by_cases h1 : M[i].1 = top <;> by_cases h2 : zbN M[i].1 top.length = b <;> simp [h1, h2]
theorem joinK_take {p : Key} {M : List (Key × Own)} {i : Nat} {x : Key × Own} (h : M[i]? = some x) : zhE p ((M.take (i + 1)).map Prod.fst) = lcpL (zhE p ((M.take i).map Prod.fst)) x.1 := by
 obtain ⟨hi, rfl⟩ := qbl.1 h
 unfold zhE
 rw [qbn hi, qbF, qco]; rfl
theorem take_len {α : Type} (l : List α) (i : Nat) : (l.take i).length ≤ l.length := qN
theorem zi3 (p q : Key) (hp : p.length ≤ 32) (hq : q.length ≤ 32) : Fn prog 110 [.agg (netA (zav p) p.length), .agg (netA (zav q) q.length)] (qf (decide (p <+: q))) [] := by
 have h := nHolds_s (zav p) p.length (zav q) q.length (zbl p hp).1 (zbl p hp).2 (zbl q hq).1 (zbl q hq).2
 rw [holds_pre p q hp hq] at h
 exact h
def bitN (q : Key) (i : Nat) : Nat := if zbN q i = true then 1 else 0
theorem bitN_le (q : Key) (i : Nat) : bitN q i ≤ 1 := by unfold bitN; split <;> omega
theorem side_bits (p q : Key) (h : p.length < q.length) (hq : q.length ≤ 32) : bits .and .u32 ((zav q).fdiv (2 ^ min (31 - (p.length : Int)).toNat IntKind.u32.bits)) 1 = (bitN q p.length : Nat) := by
 have hm : min (31 - (p.length : Int)).toNat IntKind.u32.bits = (31 - (p.length : Int)).toNat := Nat.min_eq_left (by simp only [IntKind.bits]; omega)
 obtain ⟨b0, b1⟩ := zbl q hq
 obtain ⟨s0, s1⟩ := shr_bd (zav q) (31 - (p.length : Int)).toNat b0 b1
 rw [hm, qbP _ (Int.le_of_lt (zcS _)), zgR _ s0 s1, bit_key q p.length hq h]
 unfold bitN; split <;> rfl
theorem side_s (p q : Key) (h : p.length < q.length) (hq : q.length ≤ 32) : Fn prog 111 [.agg (netA (zav p) p.length), .agg (netA (zav q) q.length)] (qd (bitN q p.length : Nat)) [] := by
 have hsb := side_bits p q h hq
 have hl := bitN_le q p.length
 generalize bitN q p.length = b at *
 refine fnI fun w0 A => ?_
 refine G [13] ?_
 refine zaa (a_shr qp rfl) rfl rfl ?_
 refine zaa (zf4 qC hsb) rfl rfl ?_
 exact jdh
theorem below_s (p q : Key) (hp : p.length ≤ 32) (hq : q.length ≤ 32) : Fn prog 153 [.agg (netA (zav p) p.length), .agg (netA (zav q) q.length)] (.p (.v (.bool (zeW p q)))) [] := by
 have hH := zi3 p q hp hq
 have e : zeW p q = (decide ((p.length : Int) < (q.length : Int)) && decide (p <+: q)) := by unfold zeW; congr 1; exact decide_eq_decide.2 qp
 rw [e]
 generalize decide (p <+: q) = c at *
 refine fnI fun w0 A => ?_
 refine G [14] ?_
 refine mb2 _ rfl rfl (fun hb => (zao U82 rfl sz82 qv qA)) (fun _ => ⟨rfl, trivial⟩) ?_
 refine mb2 _ rfl rfl (fun hb => (zao U82 rfl sz82 qv qA)) (fun _ => ⟨rfl, trivial⟩) ?_
 refine mb2 _ rfl rfl (fun _ => zbc func110 rfl rfl (hH) qw rfl) (fun _ => trivial) ?_
 exact jdb
def trP : TR → PV
 | .nil => .v (.pointer none)
 | .nd p o l r => .pt [.v (.int .u32 (zav p)), .v (.int .i64 p.length), .v (.string o), trP l, trP r]
def nds (l : List ND) : List PV := l.flatMap ND.pv
def ndsV (l : List ND) : PV := .sl l.length 4 (nds l)
theorem zdu (x : ND) (l : List ND) : nds (x :: l) = qi x.a :: qh x.n :: qg x.o :: qh x.s :: nds l := rfl
theorem zhx (l r : List ND) : nds (l ++ r) = nds l ++ nds r := by simp [nds]
theorem zev : ∀ l : List ND, (nds l).length = l.length * 4
 | [] => rfl
 | x :: l => by rw [zdu]; simp only [qbs, zev l]; omega
theorem ziV : ∀ (l : List ND) (k : Nat), (nds l).take (k * 4) = nds (l.take k)
 | l, 0 => by simp [nds]
 | [], k + 1 => by simp [nds]
 | x :: l, k + 1 => by
  rw [zdu, qb7, zdu, ← ziV l k, show (k + 1) * 4 = k * 4 + 1 + 1 + 1 + 1 by omega]
  simp only [qb7]
theorem ziW : ∀ (l : List ND) (k : Nat), (nds l).drop (k * 4) = nds (l.drop k)
 | l, 0 => by simp
 | [], k + 1 => by simp [nds]
 | x :: l, k + 1 => by
  rw [zdu, qb8, ← ziW l k, show (k + 1) * 4 = k * 4 + 1 + 1 + 1 + 1 by omega]
  simp only [qb8]
theorem nds_take_all (l : List ND) : (nds l).take (l.length * 4) = nds l := by rw [ziV, qbI]
def growRes : Option (TR × List ND) → AV
 | none => .tup [.p (.v (.pointer none)), .p (.v (.slice none 0 0)), .p (.v (.bool false))]
 | some (t, rest) => .tup [.p (trP t), .p (ndsV rest), .p (.v (.bool true))]
section
variable {P : Program} {d : Option Tmp} {ty : TypeId} {pos : String} {af : Array Edge} {g : Option (Nat × Bool)} {x y : Operand} {xt yt e : TypeId}
theorem zjq {t : TR} (hu : P.underlying xt = some (.pointer e)) : AOp P ⟨d, .binOp .neq xt x y yt, ty, pos, af, g⟩ [.p (trP t), .p (.v (.pointer none))] [] [] (qf (!t.isNil)) := by
 cases t
 ·exact a_pneNN hu
 ·exact a_pnePN hu
theorem a_peqTR {t : TR} (hu : P.underlying xt = some (.pointer e)) : AOp P ⟨d, .binOp .eql xt x y yt, ty, pos, af, g⟩ [.p (trP t), .p (.v (.pointer none))] [] [] (qf t.isNil) := by
 cases t
 ·exact a_peqNN hu
 ·exact a_peqPN hu
end
theorem grow_s : ∀ (n : Nat) (l : List ND), l.length ≤ n → (∀ x ∈ l, x.OK) → l.length ≤ 4611686018427387904 → Fn prog 108 [.p (ndsV l)] (growRes (zds n l)) []
 | 0, l, hn, hok, hz => by
  obtain rfl := qbt (Nat.le_zero.1 hn)
  show Fn prog 108 [ql 0 4 []] (.tup [.p (.v (.pointer none)), qm, qf false]) []
  refine fnI fun w0 A => ?_
  refine G [11, 1, 25, 9, 0] ?_
  refine cX ?_ ?_ <;> intro h
  ·refine G [7, 9, 0] ?_
   exact yE
  ·cases h
 | n + 1, [], hn, hok, hz => by
  show Fn prog 108 [ql 0 4 []] (.tup [.p (.v (.pointer none)), qm, qf false]) []
  refine fnI fun w0 A => ?_
  refine G [11, 1, 25, 9, 0] ?_
  refine cX ?_ ?_ <;> intro h
  ·refine G [7, 9, 0] ?_
   exact yE
  ·cases h
 | n + 1, x :: l, hn, hok, hz => by
  have ih := grow_s n
  have hx := hok x qC
  have hokl : ∀ y ∈ l, y.OK := fun y hy => hok y qa7
  obtain ⟨a, b, o, s⟩ := x
  have hC := zcp a b hx.a0 hx.a1
  have hz' : l.length + 1 ≤ 4611686018427387904 := by simpa using hz
  have s0 := hx.s0
  have s1 := hx.s1
  simp only at s0 s1
  rw [zds]
  show Fn prog 108 [ql (l.length + 1) 4 (qi a :: qh b :: qg o :: qh s :: nds l)] _ []
  obtain ⟨F, hF⟩ : ∃ F, F = zan a b := ⟨_, rfl⟩
  rw [← hF] at hC
  have hfz : (ND.fault ⟨a, b, o, s⟩) = F := hF.symm
  rw [hfz]
  refine fnI fun w0 A => ?_
  refine G [15] ?_
  refine jfb (zam fi84_2 rfl) ?_
  refine zaa (zaG U3 rfl qy) rfl rfl ?_
  refine G [4] ?_
  refine mb2 _ rfl rfl (fun hb => (zaZ U25 sz84 qp qp rfl)) (fun _ => trivial) ?_
  refine mb2 _ rfl rfl (fun hb => (zam fi84_2 rfl)) (fun _ => trivial) ?_
  refine mb2 _ rfl rfl (fun hb => (zaG U3 rfl qy)) (fun _ => trivial) ?_
  refine mb2 _ rfl rfl (fun hb => (zaF (r := .p _))) (fun _ => trivial) ?_
  refine mb2 _ rfl rfl (fun hb => (zeg U25)) (fun _ => trivial) ?_
  refine G [1, 2, 2] ?_
  refine mb2 _ rfl rfl (fun hb => (zaZ U25 sz84 qp qp rfl)) (fun _ => trivial) ?_
  refine mb2 _ rfl rfl (fun hb => (zam fi84_0 rfl)) (fun _ => trivial) ?_
  refine mb2 _ rfl rfl (fun hb => (zas U82 rfl sz82 qG (rfl))) (fun _ => trivial) ?_
  refine mb2 _ rfl rfl (fun _ => zbc func75 rfl rfl (hC) qw rfl) (fun _ => trivial) ?_
  refine G [1, 2, 1, 9, 0] ?_
  refine cX ?_ ?_ <;> intro h
  ·have hc : s < 1 ∨ ((l.length + 1 : Nat) : Int) < s ∨ F ≠ 0 := by
    simp at h
    omega
   rw [if_pos hc]
   refine G [7, 9, 0] ?_
   exact yE
  have hc : ¬ (s < 1 ∨ ((l.length + 1 : Nat) : Int) < s ∨ F ≠ 0) := by
   simp at h
   omega
  clear h
  rw [if_neg hc]
  simp only [not_or, Int.not_lt] at hc
  obtain ⟨c1, c2, c3⟩ := hc
  replace c3 : F = 0 := qbk.1 c3
  obtain ⟨q1, q2, q3⟩ := ND.keyed hx.a0 hx.a1 (hfz.trans c3)
  generalize ND.key ⟨a, b, o, s⟩ = p at q1 q2 q3 ⊢
  simp only at q2 q3
  subst q2
  subst q3
  obtain ⟨k, rfl⟩ : ∃ k : Nat, s = ((k + 1 : Nat) : Int) := ⟨(s - 1).toNat, qp⟩
  have hk : k ≤ l.length := qp
  clear hC hfz hF c3
  rw [show ((k + 1 : Nat) : Int).toNat - 1 = k by omega]
  obtain ⟨K, hK⟩ : ∃ K, K = zd5 (zds n) p (l.take k).length .nil .nil (l.take k) := ⟨_, rfl⟩
  rw [← hK]
  have hdl : (l.drop k).length = l.length - k := qC
  have htl : (l.take k).length = k := by simp; omega
  have hnt : ((k + 1 : Nat) : Int).toNat - Int.toNat 1 = (l.take k).length := by rw [htl]; simp
  have hst : (nds l).take ((l.take k).length * 4) = nds (l.take k) := by rw [htl]; exact ziV l k
  have hnn : l.length + 1 - ((k + 1 : Nat) : Int).toNat = (l.drop k).length := qC
  have hsub : (List.drop (((k + 1 : Nat) : Int).toNat * 4) (nds (⟨zav p, p.length, o, ((k + 1 : Nat) : Int)⟩ :: l))).take ((l.drop k).length * 4) = nds (l.drop k) := by
   rw [qbx, ziW, qb8]; exact nds_take_all _
  refine G [5] ?_
  refine jfb (zam fi84_0 rfl) ?_
  refine zaa (zas U82 rfl sz82 qG (rfl)) rfl rfl ?_
  refine G [2] ?_
  refine jfb (zam fi84_1 rfl) ?_
  refine zaa (zaG U9 rfl qy) rfl rfl ?_
  refine G [9] ?_
  refine jfb (zam fi84_2 rfl) ?_
  refine zaa (zaG U3 rfl qy) rfl rfl ?_
  refine zaa (zhc (L := (some (_, _))) (H := (some (_, _))) U25 sz84 ⟨qp, rfl⟩ ⟨qp, rfl⟩ qp qp hnt (by exact hst)) rfl rfl ?_
  refine G [3] ?_
  refine jfb (zam fi84_2 rfl) ?_
  refine zaa (zaG U3 rfl qy) rfl rfl ?_
  refine zaa (zhc (L := (some (_, _))) (H := none) U25 sz84 ⟨qp, rfl⟩ rfl qp qp hnn (by exact hsub)) rfl rfl ?_
  refine G [5] ?_
  refine zac (fun m st => ∃ (k0 k1 : TR) (mine : List ND), mine.length ≤ m ∧ mine.length ≤ l.length ∧ (∀ y ∈ mine, y.OK) ∧ zd5 (zds n) p m k0 k1 mine = K ∧ st = St.of [(5, .ref 48 0), (6, .p (ndsV mine)), (7, .p (ndsV (l.drop k)))] [(48, .box 164 [qe (zav p), qd p.length, qc o, .p (trP k0), .p (trP k1)])]) (l.take k).length ?_ ?_
  ·refine ⟨_, zae id _ _ ?_ ?_ rfl, .nil, .nil, l.take k, Nat.le_refl _, qp, fun y hy => hokl y (qbT hy), hK.symm, rfl⟩
   ·exact ⟨⟨rfl, rfl⟩, ⟨rfl, rfl⟩, ⟨rfl, rfl⟩, trivial⟩
   ·exact ⟨⟨rfl, rfl⟩, trivial⟩
  rintro m st ⟨k0, k1, mine, hm, hmn, hmok, hmK, rfl⟩
  refine G [7, 9, 0] ?_
  refine cX ?_ ?_ <;> intro h
  ·have hpos : 0 < mine.length := qu
   clear h
   have hg := ih mine (by simp at hn; omega) hmok qp
   obtain ⟨y, mine', rfl⟩ : ∃ y m', mine = y :: m' := by cases mine with | nil => simp at hpos | cons y m' => exact ⟨y, m', rfl⟩
   obtain ⟨m, rfl⟩ : ∃ m', m = m' + 1 := ⟨m - 1, qp⟩
   simp only [zd5] at hmK
   cases hq : zds n (y :: mine') with
   | none =>
    rw [hq] at hmK hg
    subst hmK
    replace hg : Fn prog 108 [.p (ndsV (y :: mine'))] (.tup [.p (.v (.pointer none)), qm, qf false]) [] := hg
    refine G [5] ?_
    refine cK hg ?_
    refine G [26, 9, 0] ?_
    refine cX ?_ ?_ <;> intro h
    ·refine G [7, 9, 0] ?_
     exact yE
    ·cases h
   | some r =>
    obtain ⟨t', more⟩ := r
    obtain ⟨⟨gv, gs, gn⟩, gl⟩ := zd8 hmok hq
    cases t' with
    | nil => exact absurd rfl gn
    | nd q o' ka kb =>
     rw [hq] at hmK hg
     simp only at hmK
     have gq := gs.1
     replace hg : Fn prog 108 [.p (ndsV (y :: mine'))] (.tup [.p (.pt [qi (zav q), qh q.length, qg o', trP ka, trP kb]), .p (ndsV more), qf true]) [] := hg
     have hB := below_s p q q1 gq
     refine G [5] ?_
     refine cK hg ?_
     refine G [8] ?_
     cases hbw : zeW p q with
     | false =>
      rw [hbw, if_neg (by simp)] at hmK
      rw [hbw] at hB
      subst hmK
      refine G [11] ?_
      refine jfb zbq ?_
      refine jfb (zam zcs rfl) ?_
      refine zaa (zas U82 rfl sz82 qG (rfl)) rfl rfl ?_
      refine cV hB ?_
      refine G [3, 9, 0] ?_
      refine cX ?_ ?_ <;> intro h
      ·refine G [7, 9, 0] ?_
       exact yE
      ·cases h
     | true =>
     rw [hbw, if_pos rfl] at hmK
     rw [hbw] at hB
     have hbl : p.length < q.length := by unfold zeW at hbw; simp at hbw; exact hbw.1
     have hS := side_s p q hbl gq
     refine G [11] ?_
     refine jfb zbq ?_
     refine jfb (zam zcs rfl) ?_
     refine zaa (zas U82 rfl sz82 qG (rfl)) rfl rfl ?_
     refine cV hB ?_
     refine G [3, 9, 0] ?_
     refine cX ?_ ?_ <;> intro h
     ·cases h
     have hml : more.length + 1 ≤ (y :: mine').length := by
      rw [gl, qbg, TR.list_nd]; simp only [qbs]; omega
     have hmore : ∀ z ∈ more, z.OK := fun z hz => hmok z (by rw [gl]; exact qbz.2 (.inr hz))
     cases hbit : zbN q p.length with
     | true =>
      rw [show bitN q p.length = 1 by unfold bitN; rw [hbit]; rfl] at hS
      rw [hbit, if_pos rfl] at hmK
      refine G [8] ?_
      refine jfb zbq ?_
      refine jfb (zam zcs rfl) ?_
      refine zaa (zas U82 rfl sz82 qG (rfl)) rfl rfl ?_
      refine cV hS ?_
      refine G [9] ?_
      refine zaa (zaQ U162 zdq qp qp qD) rfl rfl ?_
      refine l1 U121 rfl rfl rfl ⟨rfl, trivial⟩ ?_
      refine jfb (zjq U121) ?_
      refine mP rfl rfl ?_
      refine mb2 _ rfl rfl (fun hb => (zaF (r := .ref _ _))) (fun _ => trivial) ?_
      refine mb2 _ rfl rfl (fun hb => zf3) (fun _ => trivial) ?_
      refine mb2 _ rfl rfl (fun hb => (zar zdk rfl)) (fun _ => trivial) ?_
      refine mb2 _ rfl rfl (fun hb => (zaQ U162 zdq qp qp qD)) (fun _ => trivial) ?_
      refine mb2 _ rfl rfl (fun hb => (zbr U121 rfl qV)) (fun _ => ⟨rfl, trivial⟩) ?_
      refine mb2 _ rfl rfl (fun hb => zjq U121) (fun _ => trivial) ?_
      refine G [0, 2, 1, 9, 0] ?_
      refine cX ?_ ?_ <;> intro h
      ·have hk1 : k1.isNil = false := qz
       rw [if_neg (by simp [hk1])] at hmK
       subst hmK
       refine G [7, 9, 0] ?_
       exact yE
      ·have hk1 : k1.isNil = true := qz
       rw [if_pos hk1] at hmK
       refine G [8] ?_
       refine zaa (zaQ U162 zdq qp qp qD) rfl rfl ?_
       refine G [3, 9, 0] ?_
       refine ⟨m, qp, _, zae id _ _ ?_ ?_ rfl, k0, .nd q o' ka kb, more, qp, qp, hmore, hmK, rfl⟩
       ·exact ⟨⟨rfl, rfl⟩, ⟨rfl, rfl⟩, ⟨rfl, rfl⟩, trivial⟩
       ·exact ⟨⟨rfl, rfl⟩, trivial⟩
     | false =>
      rw [show bitN q p.length = 0 by unfold bitN; rw [hbit]; rfl] at hS
      rw [hbit, if_neg (by simp)] at hmK
      refine G [8] ?_
      refine jfb zbq ?_
      refine jfb (zam zcs rfl) ?_
      refine zaa (zas U82 rfl sz82 qG (rfl)) rfl rfl ?_
      refine cV hS ?_
      refine G [9] ?_
      refine zaa (zaQ U162 zdq qp qp qD) rfl rfl ?_
      refine l1 U121 rfl rfl rfl ⟨rfl, trivial⟩ ?_
      refine jfb (zjq U121) ?_
      refine mP rfl rfl ?_
      refine mb2 _ rfl rfl (fun hb => (zaF (r := .ref _ _))) (fun _ => trivial) ?_
      refine mb2 _ rfl rfl (fun hb => zf3) (fun _ => trivial) ?_
      refine mb2 _ rfl rfl (fun hb => (zar zdk rfl)) (fun _ => trivial) ?_
      refine mb2 _ rfl rfl (fun hb => (zaQ U162 zdq qp qp qD)) (fun _ => trivial) ?_
      refine mb2 _ rfl rfl (fun hb => (zbr U121 rfl qV)) (fun _ => ⟨rfl, trivial⟩) ?_
      refine mb2 _ rfl rfl (fun hb => zjq U121) (fun _ => trivial) ?_
      refine G [0, 2, 1, 9, 0] ?_
      refine cX ?_ ?_ <;> intro h
      ·have hk1 : ¬ (k0.isNil = true ∧ k1.isNil = true) := by
        intro hh
        simp [hh.1, hh.2] at h
       rw [if_neg hk1] at hmK
       subst hmK
       refine G [7, 9, 0] ?_
       exact yE
      ·have hk1 : k0.isNil = true ∧ k1.isNil = true := qz
       rw [if_pos hk1] at hmK
       refine G [8] ?_
       refine zaa (zaQ U162 zdq qp qp qD) rfl rfl ?_
       refine G [3, 9, 0] ?_
       refine ⟨m, qp, _, zae id _ _ ?_ ?_ rfl, .nd q o' ka kb, k1, more, qp, qp, hmore, hmK, rfl⟩
       ·exact ⟨⟨rfl, rfl⟩, ⟨rfl, rfl⟩, ⟨rfl, rfl⟩, trivial⟩
       ·exact ⟨⟨rfl, rfl⟩, trivial⟩
  have hnil : mine = [] := by
   cases mine with
   | nil => rfl
   | cons y m' => simp at h
  clear h
  subst hnil
  rw [zhD] at hmK
  subst hmK
  refine G [10] ?_
  refine mb2 _ rfl rfl (fun hb => (zaF (r := .ref _ _))) (fun _ => trivial) ?_
  refine mb2 _ rfl rfl (fun hb => zf3) (fun _ => trivial) ?_
  refine mb2 _ rfl rfl (fun hb => (zar zdk rfl)) (fun _ => trivial) ?_
  refine mb2 _ rfl rfl (fun hb => (zaQ U162 zdq qp qp qD)) (fun _ => trivial) ?_
  refine mb2 _ rfl rfl (fun hb => (zbr U121 rfl qV)) (fun _ => ⟨rfl, trivial⟩) ?_
  refine mb2 _ rfl rfl (fun hb => a_peqTR U121) (fun _ => trivial) ?_
  refine mb2 _ rfl rfl (fun hb => (zaF (r := .p _))) (fun _ => trivial) ?_
  refine mb2 _ rfl rfl (fun hb => (zaF (r := .ref _ _))) (fun _ => trivial) ?_
  refine mb2 _ rfl rfl (fun hb => zf3) (fun _ => trivial) ?_
  refine mb2 _ rfl rfl (fun hb => (zar zdk rfl)) (fun _ => trivial) ?_
  refine mb2 _ rfl rfl (fun hb => (zaQ U162 zdq qp qp qD)) (fun _ => trivial) ?_
  refine mb2 _ rfl rfl (fun hb => (zbr U121 rfl qV)) (fun _ => ⟨rfl, trivial⟩) ?_
  refine mb2 _ rfl rfl (fun hb => a_peqTR U121) (fun _ => trivial) ?_
  refine r_mb3 _ rfl rfl (.mb _ _ _ _ qaY (.keep _ _ _ (.keep _ _ _ .nil))) (fun hb => (a_or qau)) (fun _ => trivial) ?_
  refine G [0, 2, 1, 9, 0] ?_
  refine cX ?_ ?_ <;> intro h
  ·have hc : o = noOwn ∧ (k0.isNil = true ∨ k1.isNil = true) := qz
   rw [growTop_no hc]
   refine G [7, 9, 0] ?_
   exact yE
  ·have hc : ¬ (o = noOwn ∧ (k0.isNil = true ∨ k1.isNil = true)) := by
    intro hh
    simp [hh.1] at h
    rcases hh.2 with h' | h' <;> simp [h'] at h
   rw [zhM hc]
   refine zaX (zeo (cs := [qi (zav p), qh p.length, qg o, trP k0, trP k1]) 48 rfl rfl) ?_
   refine G [10, 9, 0] ?_
   exact yE
noncomputable def eqB {α : Type} (x y : α) : Bool := @decide (x = y) (Classical.propDecidable _)
theorem zgy {α : Type} {x y : α} : eqB x y = true ↔ x = y := by unfold eqB; simp
theorem zjb {α : Type} {x y : α} (h : x = y) : eqB x y = true := zgy.2 h
theorem zgz {α : Type} {x y : α} (h : x ≠ y) : eqB x y = false := by
 cases hq : eqB x y with
 | false => rfl
 | true => exact absurd (zgy.1 hq) h
theorem zja {α : Type} (x : α) : eqB x x = true := zjb rfl
theorem zhr {α : Type} {l m : List α} {i : Nat} {x y : α} (h1 : l[i]? = some x) (h2 : m[i]? = some y) (h : x ≠ y) : l ≠ m := by
 rintro rfl
 rw [h1] at h2
 exact h (Option.some.inj h2)
theorem zhs {α : Type} {l m : List α} (h : l.length = m.length) (k : ∀ j, j < l.length → l[j]? = m[j]?) : l = m := by
 apply qcS
 intro j
 rcases qcl j l.length with hj | hj
 ·exact k j hj
 ·rw [List.getElem?_eq_none hj, List.getElem?_eq_none (by omega)]
theorem eqNets_d (l m : List NtP) (hl : l.length ≤ 4611686018427387904) (hm : m.length ≤ 4611686018427387904) : Fn prog 53 [ql l.length 2 (l.flatMap ntC), ql m.length 2 (m.flatMap ntC)] (qf (eqB l m)) [] := by
 by_cases hlen : l.length = m.length
 rotate_left
 ·rw [zgz (fun e => hlen (by rw [e]))]
  generalize l.flatMap ntC = L
  generalize m.flatMap ntC = M
  exact ja1
 obtain ⟨E, hE⟩ : ∃ E, eqB l m = E := ⟨_, rfl⟩
 rw [hE]
 refine fnI fun w0 A => ?_
 refine G [11, 3, 11] ?_
 refine zac (fun u st => ∃ i : Nat, u + i = l.length ∧ (∀ j, j < i → l[j]? = m[j]?) ∧ st = St.of [(0, ql l.length 2 (l.flatMap ntC)), (1, ql m.length 2 (m.flatMap ntC)), (12, qd l.length), (13, qd i)] []) l.length ?_ ?_
 ·exact jaG
 rintro u st ⟨i, hi, hf, rfl⟩
 refine G [5] ?_
 refine cX ?_ ?_ <;> intro h
 ·have hlt : i < l.length := qu
  clear h
  obtain ⟨x, hx⟩ := qo hlt
  obtain ⟨y, hy⟩ : ∃ y, m[i]? = some y := ⟨m[i]'qp, List.getElem?_eq_getElem qp⟩
  have hch := zaj (f := ntC) (k := 2) (fun _ => rfl) hx
  have hle := zai (f := ntC) (k := 2) (fun _ => rfl) hlt
  have hch2 := zaj (f := ntC) (k := 2) (fun _ => rfl) hy
  have hle2 := zai (f := ntC) (k := 2) (fun _ => rfl) (show i < m.length by omega)
  have hbad := zhr hx hy
  have hxy : x = y → l[i]? = m[i]? := fun e => by rw [hx, hy, e]
  generalize l.flatMap ntC = L at *
  generalize m.flatMap ntC = M at *
  obtain ⟨a1, b1⟩ := x
  obtain ⟨a2, b2⟩ := y
  refine G [8] ?_
  by_cases he : (⟨a1, b1⟩ : NtP) = ⟨a2, b2⟩
  ·refine G [10] ?_
   refine zaa (zak U82 (xs := [.int .u32 a1, .int .i64 b1]) (ys := [.int .u32 a2, .int .i64 b2]) rfl rfl qr qr qr (c := false) qaw) rfl rfl ?_
   refine jdv ?_
   exact jaF
  ·rw [zgz (hbad he)] at hE
   subst hE
   refine G [10] ?_
   refine zaa (zak U82 (xs := [.int .u32 a1, .int .i64 b1]) (ys := [.int .u32 a2, .int .i64 b2]) rfl rfl qr qr qr (c := true) qan) rfl rfl ?_
   exact jb3
 have hge : i = l.length := qu
 clear h
 subst hge
 rw [zjb (zhs hlen hf)] at hE
 subst hE
 refine jdI ?_
 exact yE
theorem eqSets_d (l m : List SE) (hl : l.length ≤ 4611686018427387904) (hm : m.length ≤ 4611686018427387904) : Fn prog 90 [ql l.length 5 (l.flatMap SE.pv), ql m.length 5 (m.flatMap SE.pv)] (qf (eqB l m)) [] := by
 by_cases hlen : l.length = m.length
 rotate_left
 ·rw [zgz (fun e => hlen (by rw [e]))]
  generalize l.flatMap SE.pv = L
  generalize m.flatMap SE.pv = M
  exact ja1
 obtain ⟨E, hE⟩ : ∃ E, eqB l m = E := ⟨_, rfl⟩
 rw [hE]
 refine fnI fun w0 A => ?_
 refine G [8] ?_
 (first | refine zaa (zeg U27) rfl rfl ?_ | refine zaa (zeQ U27) rfl rfl ?_)
 refine jdJ ?_
 (first | refine zaa (zeg U27) rfl rfl ?_ | refine zaa (zeQ U27) rfl rfl ?_)
 refine G [0, 3, 11] ?_
 refine zac (fun u st => ∃ i : Nat, u + i = l.length ∧ (∀ j, j < i → l[j]? = m[j]?) ∧ st = St.of [(0, ql l.length 5 (l.flatMap SE.pv)), (1, ql m.length 5 (m.flatMap SE.pv)), (12, qd l.length), (13, qd i)] []) l.length ?_ ?_
 ·exact jaG
 rintro u st ⟨i, hi, hf, rfl⟩
 refine G [5] ?_
 refine cX ?_ ?_ <;> intro h
 ·have hlt : i < l.length := qu
  clear h
  obtain ⟨x, hx⟩ := qo hlt
  obtain ⟨y, hy⟩ : ∃ y, m[i]? = some y := ⟨m[i]'qp, List.getElem?_eq_getElem qp⟩
  have hch := zaj (f := SE.pv) (k := 5) (fun _ => rfl) hx
  have hle := zai (f := SE.pv) (k := 5) (fun _ => rfl) hlt
  have hch2 := zaj (f := SE.pv) (k := 5) (fun _ => rfl) hy
  have hle2 := zai (f := SE.pv) (k := 5) (fun _ => rfl) (show i < m.length by omega)
  have hbad := zhr hx hy
  have hxy : x = y → l[i]? = m[i]? := fun e => by rw [hx, hy, e]
  generalize l.flatMap SE.pv = L at *
  generalize m.flatMap SE.pv = M at *
  obtain ⟨k1, t1, n1, a1, b1⟩ := x
  obtain ⟨k2, t2, n2, a2, b2⟩ := y
  refine G [8] ?_
  by_cases he : (⟨k1, t1, n1, a1, b1⟩ : SE) = ⟨k2, t2, n2, a2, b2⟩
  ·refine G [10] ?_
   refine zaa (zak U107 (xs := [.int .i64 k1, .string t1, .int .i64 n1, .int .u32 a1, .int .i64 b1]) (ys := [.int .i64 k2, .string t2, .int .i64 n2, .int .u32 a2, .int .i64 b2]) rfl rfl qr qr qr (c := false) qaw) rfl rfl ?_
   refine jdv ?_
   exact jaF
  ·rw [zgz (hbad he)] at hE
   subst hE
   refine G [10] ?_
   refine zaa (zak U107 (xs := [.int .i64 k1, .string t1, .int .i64 n1, .int .u32 a1, .int .i64 b1]) (ys := [.int .i64 k2, .string t2, .int .i64 n2, .int .u32 a2, .int .i64 b2]) rfl rfl qr qr qr (c := true) qan) rfl rfl ?_
   exact jb3
 have hge : i = l.length := qu
 clear h
 subst hge
 rw [zjb (zhs hlen hf)] at hE
 subst hE
 refine jdI ?_
 exact yE
theorem eqNodes_d (l m : List ND) (hl : l.length ≤ 4611686018427387904) (hm : m.length ≤ 4611686018427387904) : Fn prog 39 [ql l.length 4 (l.flatMap ND.pv), ql m.length 4 (m.flatMap ND.pv)] (qf (eqB l m)) [] := by
 by_cases hlen : l.length = m.length
 rotate_left
 ·rw [zgz (fun e => hlen (by rw [e]))]
  generalize l.flatMap ND.pv = L
  generalize m.flatMap ND.pv = M
  exact ja1
 obtain ⟨E, hE⟩ : ∃ E, eqB l m = E := ⟨_, rfl⟩
 rw [hE]
 refine fnI fun w0 A => ?_
 refine G [8] ?_
 (first | refine zaa (zeg U25) rfl rfl ?_ | refine zaa (zeQ U25) rfl rfl ?_)
 refine jdJ ?_
 (first | refine zaa (zeg U25) rfl rfl ?_ | refine zaa (zeQ U25) rfl rfl ?_)
 refine G [0, 3, 11] ?_
 refine zac (fun u st => ∃ i : Nat, u + i = l.length ∧ (∀ j, j < i → l[j]? = m[j]?) ∧ st = St.of [(0, ql l.length 4 (l.flatMap ND.pv)), (1, ql m.length 4 (m.flatMap ND.pv)), (12, qd l.length), (13, qd i)] []) l.length ?_ ?_
 ·exact jaG
 rintro u st ⟨i, hi, hf, rfl⟩
 refine G [5] ?_
 refine cX ?_ ?_ <;> intro h
 ·have hlt : i < l.length := qu
  clear h
  obtain ⟨x, hx⟩ := qo hlt
  obtain ⟨y, hy⟩ : ∃ y, m[i]? = some y := ⟨m[i]'qp, List.getElem?_eq_getElem qp⟩
  have hch := zaj (f := ND.pv) (k := 4) (fun _ => rfl) hx
  have hle := zai (f := ND.pv) (k := 4) (fun _ => rfl) hlt
  have hch2 := zaj (f := ND.pv) (k := 4) (fun _ => rfl) hy
  have hle2 := zai (f := ND.pv) (k := 4) (fun _ => rfl) (show i < m.length by omega)
  have hbad := zhr hx hy
  have hxy : x = y → l[i]? = m[i]? := fun e => by rw [hx, hy, e]
  generalize l.flatMap ND.pv = L at *
  generalize m.flatMap ND.pv = M at *
  obtain ⟨a1, n1, o1, s1⟩ := x
  obtain ⟨a2, n2, o2, s2⟩ := y
  refine G [8] ?_
  by_cases he : (⟨a1, n1, o1, s1⟩ : ND) = ⟨a2, n2, o2, s2⟩
  ·refine G [10] ?_
   refine zaa (zak U84 (xs := [.int .u32 a1, .int .i64 n1, .string o1, .int .i64 s1]) (ys := [.int .u32 a2, .int .i64 n2, .string o2, .int .i64 s2]) rfl rfl qr qr qr (c := false) qaw) rfl rfl ?_
   refine jdv ?_
   exact jaF
  ·rw [zgz (hbad he)] at hE
   subst hE
   refine G [10] ?_
   refine zaa (zak U84 (xs := [.int .u32 a1, .int .i64 n1, .string o1, .int .i64 s1]) (ys := [.int .u32 a2, .int .i64 n2, .string o2, .int .i64 s2]) rfl rfl qr qr qr (c := true) qan) rfl rfl ?_
   exact jb3
 have hge : i = l.length := qu
 clear h
 subst hge
 rw [zjb (zhs hlen hf)] at hE
 subst hE
 refine jdI ?_
 exact yE
structure CF where
 key : ByteArray
 port : Int
 ps : List PE
def cfC (key : ByteArray) (port : Int) (n : Nat) (L : List PV) : List AV := [qc key, qd port, ql n 5 L]
def CF.cells (c : CF) : List AV := cfC c.key c.port c.ps.length (c.ps.flatMap PE.pv)
def CF.pv (c : CF) : List PV := [qg c.key, qh c.port, .sl c.ps.length 5 (c.ps.flatMap PE.pv)]
structure CF.OK (c : CF) : Prop where
 len : c.ps.length ≤ 1048576
 ps : ∀ p ∈ c.ps, p.OK ∧ p.nets.length ≤ 1048576
theorem PE.list_ty {n : Nat} {ps : List PV} (h : Ty Tryz.prog (n + 6) 22 ps) (hb : PV.bdL 1048576 ps) : ∃ l : List PE, (∀ p ∈ l, p.OK ∧ p.nets.length ≤ 1048576) ∧ l.length ≤ 1048576 ∧ ps = [.sl l.length 5 (l.flatMap PE.pv)] := by
 obtain ⟨L, rfl, h2, h3⟩ := zfr (sz := 5) U22 qr h
 simp only [PV.bdL, PV.bd, and_true] at hb
 obtain ⟨l, k1, k2, k3⟩ := zgh (f := PE.pv) (Q := fun p : PE => p.OK ∧ p.nets.length ≤ 1048576) (L := L) fun x hx => by
  have hbx := zbs hb.2 x hx
  obtain ⟨s, h4, h5⟩ := PE.of_ty (n := n) (h3 x hx).1 hbx
  rw [h5] at hbx
  simp only [PE.pv, PV.bdL, PV.bd] at hbx
  exact ⟨s, ⟨h4, hbx.2.2.2.2.1.1⟩, h5⟩
 exact jdl
theorem CF.of_ty {n : Nat} {ps : List PV} (h : Ty Tryz.prog (n + 7) 24 ps) (hb : PV.bdL 1048576 ps) : ∃ c : CF, c.OK ∧ ps = c.pv := by
 obtain ⟨_, rfl, x0, _, rfl, t0, x1, _, rfl, t1, x2, _, rfl, t2, rfl⟩ := zbi (ts := [9, 3, 22]) qr h
 obtain ⟨a0, rfl, _⟩ := zbD U9 t0
 obtain ⟨a1, rfl, _⟩ := zbz U3 t1
 obtain ⟨l, ok, hl, rfl⟩ := PE.list_ty t2 (zbs hb x2 qC)
 exact ⟨⟨a0, a1, l⟩, ⟨hl, ok⟩, rfl⟩
def dupN : List NtP → List NtP → Bool
 | _, [] => false
 | acc, n :: r => decide (n ∈ acc) || dupN (acc ++ [n]) r
def peG (l : List PE) (i : Nat) : PE := l.getD i ⟨⟨#[]⟩, ⟨#[]⟩, ⟨#[]⟩, 0, []⟩
def zck (l : List PE) (i : Nat) : List NtP := (l.take i).flatMap PE.nets
def zdV (k : ByteArray) (l : List PE) (i : Nat) : Int :=
 if peE (peG l i) ≠ 0 then peE (peG l i) else if (0 < i ∧ leK (peG l i).key (peG l (i - 1)).key = true) ∨ (peG l i).key = k then 6
 else if dupN (zck l i) (peG l i).nets = true then 6 else 0
def cfE (c : CF) : Int :=
 if c.key ≠ ⟨#[]⟩ ∧ keyE c.key ≠ 0 then keyE c.key else if c.port < 0 ∨ 65535 < c.port then 4 else if 6 < c.ps.length then 1 else fnz (zdV c.key c.ps) c.ps.length
theorem zch {l : List PE} {i : Nat} {p : PE} (h : l[i]? = some p) : peG l i = p := by unfold peG; rw [List.getD_eq_getElem?_getD, h]; rfl
theorem zgn {l : List PE} {i : Nat} {p : PE} (h : l[i]? = some p) : zck l (i + 1) = zck l i ++ p.nets := by
 obtain ⟨h1, h2⟩ := qbl.1 h
 unfold zck
 exact jch
theorem netsB_len {l : List PE} {i : Nat} (h : ∀ j, j < i → (peG l j).nets.length ≤ 8) (hi : i ≤ l.length) : (zck l i).length ≤ 8 * i := by
 induction i with
 | zero => simp [zck]
 | succ i ih =>
  have hi' : l[i]? = some l[i] := List.getElem?_eq_getElem qp
  rw [zgn hi', qbg]
  have h1 := ih (fun j hj => h j qp) qp
  have h2 := h i qp
  rw [zch hi'] at h2
  omega
theorem zcU {p : PE} (h : peE p = 0) : p.nets.length ≤ 8 ∧ keyE p.key = 0 := by
 unfold peE at h
 split at h
 ·exact jdg
 rename_i h1
 split at h
 ·rename_i h2; exact absurd h h2.2
 split at h
 ·cases h
 split at h
 ·rename_i h2; exact absurd h h2.2
 split at h
 ·cases h
 split at h
 ·cases h
 exact ⟨qp, qbk.1 h1⟩
noncomputable def peB (x y : PE) : Bool := (((decide (x.key = y.key) && decide (x.sh = y.sh)) && decide (x.ep = y.ep)) && (x.al == y.al)) && eqB x.nets y.nets
theorem peB_iff {x y : PE} : peB x y = true ↔ x = y := by
 obtain ⟨a, b, c, d, e⟩ := x
 obtain ⟨a', b', c', d', e'⟩ := y
 unfold peB
 simp [zgy, and_assoc]
theorem peB_T {x y : PE} (h : x = y) : peB x y = true := peB_iff.2 h
theorem peB_F {x y : PE} (h : x ≠ y) : peB x y = false := by
 cases hq : peB x y with
 | false => rfl
 | true => exact absurd (peB_iff.1 hq) h
theorem pel_d (x y : PE) (hx : x.nets.length ≤ 1048576) (hy : y.nets.length ≤ 1048576) : Fn prog 52 [.agg x.cells, .agg y.cells] (qf (peB x y)) [] := by
 have hN := eqNets_d x.nets y.nets qp qp
 obtain ⟨k1, s1, e1, a1, n1⟩ := x
 obtain ⟨k2, s2, e2, a2, n2⟩ := y
 dsimp only at hN
 show Fn prog _ [.agg [qc k1, qc s1, qc e1, qd a1, ql n1.length 2 (n1.flatMap ntC)], .agg [qc k2, qc s2, qc e2, qd a2, ql n2.length 2 (n2.flatMap ntC)]] (qf ((((decide (k1 = k2) && decide (s1 = s2)) && decide (e1 = e2)) && (a1 == a2)) && eqB n1 n2)) _
 clear hx hy
 generalize eqB n1 n2 = bn at *
 generalize n1.flatMap ntC = L1 at *
 generalize n2.flatMap ntC = L2 at *
 generalize n1.length = c1 at *
 generalize n2.length = c2 at *
 refine fnI fun w0 A => ?_
 refine G [19, 2, 6, 2, 6, 2, 5] ?_
 refine mb2 _ rfl rfl (fun _ => zbc func53 rfl rfl (hN) qw rfl) (fun _ => trivial) ?_
 exact jdb
theorem pesl_d (l m : List PE) (hl : l.length ≤ 4611686018427387904) (hm : m.length ≤ 4611686018427387904) (okl : ∀ p ∈ l, p.OK ∧ p.nets.length ≤ 1048576) (okm : ∀ p ∈ m, p.OK ∧ p.nets.length ≤ 1048576) : Fn prog 51 [ql l.length 5 (l.flatMap PE.pv), ql m.length 5 (m.flatMap PE.pv), .fn 52 []] (qf (eqB l m)) [] := by
 by_cases hlen : l.length = m.length
 rotate_left
 ·rw [zgz (fun e => hlen (by rw [e]))]
  generalize l.flatMap PE.pv = L
  generalize m.flatMap PE.pv = M
  exact ja1
 obtain ⟨E, hE⟩ : ∃ E, eqB l m = E := ⟨_, rfl⟩
 rw [hE]
 refine fnI fun w0 A => ?_
 refine G [11, 3, 11] ?_
 refine zac (fun u st => ∃ i : Nat, u + i = l.length ∧ (∀ j, j < i → l[j]? = m[j]?) ∧ st = St.of [(1, ql m.length 5 (m.flatMap PE.pv)), (2, .fn 52 []), (15, ql l.length 5 (l.flatMap PE.pv)), (16, qd l.length), (17, qd i)] []) l.length ?_ ?_
 ·exact jaG
 rintro u st ⟨i, hi, hf, rfl⟩
 refine G [5] ?_
 refine cX ?_ ?_ <;> intro h
 ·have hlt : i < l.length := qu
  clear h
  obtain ⟨x, hx⟩ := qo hlt
  obtain ⟨y, hy⟩ : ∃ y, m[i]? = some y := ⟨m[i]'qp, List.getElem?_eq_getElem qp⟩
  have hch := zaj (f := PE.pv) (k := 5) (fun _ => rfl) hx
  have hle := zai (f := PE.pv) (k := 5) (fun _ => rfl) hlt
  have hch2 := zaj (f := PE.pv) (k := 5) (fun _ => rfl) hy
  have hle2 := zai (f := PE.pv) (k := 5) (fun _ => rfl) (show i < m.length by omega)
  have hbad := zhr hx hy
  have hxy : x = y → l[i]? = m[i]? := fun e => by rw [hx, hy, e]
  have hxm := qbh hx
  have hym := qbh hy
  have hC := pel_d x y (okl x hxm).2 (okm y hym).2
  generalize l.flatMap PE.pv = L at *
  generalize m.flatMap PE.pv = M at *
  refine G [10] ?_
  refine jfc (zad (Y := .agg x.cells) sz48 rfl rfl (qbf rfl)) ?_
  refine G [8] ?_
  refine jfc (zad (Y := .agg y.cells) sz48 rfl rfl (qbf rfl)) ?_
  refine zaf ?_
  by_cases he : x = y
  ·rw [peB_T he] at hC
   refine G [3] ?_
   refine jes ?_
   exact jcd
  ·rw [zgz (hbad he)] at hE
   subst hE
   rw [peB_F he] at hC
   refine G [3] ?_
   refine jes ?_
   exact jce
 have hge : i = l.length := qu
 clear h
 subst hge
 rw [zjb (zhs hlen hf)] at hE
 subst hE
 refine jdI ?_
 exact yE
noncomputable def cfB (c d : CF) : Bool := (decide (c.key = d.key) && (c.port == d.port)) && eqB c.ps d.ps
theorem zid (c d : CF) (ok : c.OK) (od : d.OK) : Fn prog 24 [.agg c.cells, .agg d.cells] (qf (cfB c d)) [] := by
 have hQ := pesl_d c.ps d.ps (by have := ok.len; omega) (by have := od.len; omega) ok.ps od.ps
 obtain ⟨k1, p1, l1'⟩ := c
 obtain ⟨k2, p2, l2'⟩ := d
 dsimp only at hQ
 show Fn prog _ [.agg [qc k1, qd p1, ql l1'.length 5 (l1'.flatMap PE.pv)], .agg [qc k2, qd p2, ql l2'.length 5 (l2'.flatMap PE.pv)]] (qf ((decide (k1 = k2) && (p1 == p2)) && eqB l1' l2')) _
 clear ok od
 generalize eqB l1' l2' = bn at *
 generalize l1'.flatMap PE.pv = L1 at *
 generalize l2'.flatMap PE.pv = L2 at *
 generalize l1'.length = c1 at *
 generalize l2'.length = c2 at *
 refine fnI fun w0 A => ?_
 refine G [19, 2, 5] ?_
 refine mb2 _ rfl rfl (fun _ => zbc func51 rfl rfl (hQ) qw rfl) (fun _ => trivial) ?_
 exact jdb
def odd64 (x : Int) : Int := bits .and .u64 x 1
theorem zeX (x : Int) (h0 : 0 ≤ x) (h1 : x < 18446744073709551616) : odd64 x = x % 2 := by
 unfold odd64
 rw [u64_and x 1 h0 h1 (by omega) (by omega)]
 obtain ⟨b, rfl⟩ := qbw h0
 have e : (1 : Int).toNat = 1 := rfl
 rw [e, nat_mask1]
 simp
theorem ziM (a : Int) (k : Nat) (h2 : 0 ≤ a) (h3 : a < 18446744073709551616) : 0 ≤ a / 2 ^ k ∧ a / 2 ^ k < 18446744073709551616 := by
 obtain ⟨b, rfl⟩ := qbw h2
 rw [zb1]
 have h := Nat.div_le_self b (2 ^ k)
 have e : (b : Int) / ((2 ^ k : Nat) : Int) = ((b / 2 ^ k : Nat) : Int) := qC
 rw [e]
 generalize b / 2 ^ k = c at h
 omega
theorem odd64_shr (b : Int) (k : Nat) (h0 : 0 ≤ b) (h1 : b < 18446744073709551616) : odd64 (b / 2 ^ k) = b / 2 ^ k % 2 :=
 zeX _ (ziM b k h0 h1).1 (ziM b k h0 h1).2
def zbh (s : Bool) (l b : Int) : Int :=
 if s = false then (if l = 0 ∧ b = 0 then 0 else 14)
 else if l < 0 ∨ 1099511627776 < l then 4
 else if b % 2 = 0 then 14
 else if l < 63 ∧ ¬ b / 2 ^ (l + 1).toNat = 0 then 14 else 0
theorem winCheck_g (s : Bool) (l b : Int) (hb0 : 0 ≤ b) (hb1 : b < 18446744073709551616) (hl0 : -9223372036854775808 ≤ l) (hl1 : l < 9223372036854775808) :
 Gives Tryz.prog 152 #[.agg #[.bool s, .int .i64 l, .int .u64 b]] (.int .i64 (zbh s l b)) := by
 intro w
 have HA := Lib.hid (zeX b hb0 hb1)
 cases s
 ·have HE := Lib.hid (show zbh false l b = if l = 0 ∧ b = 0 then 0 else 14 by unfold zbh; rw [if_pos rfl])
  go_enter Tryz.func152, Tryz.ntmps152
  go_wp2_with fail
  all_goals (go_ret; exact ⟨zdb (by rw [HE.out]; simp [*]), by (repeat' (first | exact Below.refl _ _ | assumption | refine zjg ?_ qaf | refine zf0 ?_ _ | refine zji ?_ | refine zfZ ?_ _ | refine bset ?_ ?_ _ | (show _ ≤ _; simp; omega) | (simp; done)))⟩)
 ·have HE := Lib.hid (show zbh true l b = if l < 0 ∨ 1099511627776 < l then 4 else if b % 2 = 0 then 14 else if l < 63 ∧ ¬ b / 2 ^ (l + 1).toNat = 0 then 14 else 0 by unfold zbh; rw [if_neg (by simp)])
  go_enter Tryz.func152, Tryz.ntmps152
  go_wp2_with fail
  all_goals
   go_ret
   refine ⟨zdb ?_, by (repeat' (first | exact Below.refl _ _ | assumption | refine zjg ?_ qaf | refine zf0 ?_ _ | refine zji ?_ | refine zfZ ?_ _ | refine bset ?_ ?_ _ | (show _ ≤ _; simp; omega) | (simp; done)))⟩
   rw [HE.out, ← HA.out]
   unfold odd64
   (repeat' split) <;> simp_all <;> omega
theorem bits_high (l b : Int) (hb0 : 0 ≤ b) (hb1 : b < 18446744073709551616) (hl : 0 ≤ l) (H : ∀ j : Nat, j < 64 → l < j → b / 2 ^ j % 2 = 0) : ¬ (l < 63 ∧ ¬ b / 2 ^ (l + 1).toNat = 0) := by
 rintro ⟨h63, hne⟩
 obtain ⟨x, rfl⟩ := qbw hb0
 obtain ⟨m, rfl⟩ := qbw hl
 have e : ((m : Int) + 1).toNat = m + 1 := qp
 rw [e] at hne
 apply hne
 have key : x / 2 ^ (m + 1) = 0 := by
  apply Nat.eq_of_testBit_eq
  intro i
  rw [Nat.testBit_div_two_pow, Nat.zero_testBit]
  by_cases hi : i + (m + 1) < 64
  ·have := H (i + (m + 1)) hi qp
   rw [zb1] at this
   have h2 : x / 2 ^ (i + (m + 1)) % 2 = 0 := by exact_mod_cast this
   rw [Nat.testBit_eq_decide_div_mod_eq]
   simp [h2]
  ·exact Nat.testBit_lt_two_pow (qct (show x < 2 ^ 64 by omega) (qcf qE qp))
 rw [zb1]
 have : (x : Int) / ((2 ^ (m + 1) : Nat) : Int) = ((x / 2 ^ (m + 1) : Nat) : Int) := qC
 rw [this, key]
 rfl
theorem bits_high' (l b : Int) (k : Nat) (hb0 : 0 ≤ b) (hl : 0 ≤ l) (hk : k < 64) (hlk : l < k) (hbit : b / 2 ^ k % 2 = 1) : l < 63 ∧ ¬ b / 2 ^ (l + 1).toNat = 0 := by
 refine ⟨qp, fun h0 => ?_⟩
 obtain ⟨x, rfl⟩ := qbw hb0
 obtain ⟨m, rfl⟩ := qbw hl
 have e : ((m : Int) + 1).toNat = m + 1 := qp
 rw [e, zb1] at h0
 rw [zb1] at hbit
 have h1 : x / 2 ^ (m + 1) = 0 := by exact_mod_cast h0
 have h2 : x / 2 ^ k % 2 = 1 := by exact_mod_cast hbit
 have h3 : x < 2 ^ (m + 1) := by
  rcases Nat.div_eq_zero_iff.1 h1 with h | h
  ·have := qb3 (m + 1); omega
  ·exact h
 have h4 : x / 2 ^ k = 0 := Nat.div_eq_of_lt (qct h3 (qcf qE qp))
 rw [h4] at h2
 simp at h2
theorem refWinFault_g (s : Bool) (l b : Int) (hb0 : 0 ≤ b) (hb1 : b < 18446744073709551616) (hl0 : -9223372036854775808 ≤ l) (hl1 : l < 9223372036854775808) :
 Gives Tryz.prog 159 #[.agg #[.bool s, .int .i64 l, .int .u64 b]] (.int .i64 (zbh s l b)) := by
 intro w
 cases s
 ·have HE := Lib.hid (show zbh false l b = if l = 0 ∧ b = 0 then 0 else 14 by unfold zbh; rw [if_pos rfl])
  go_enter Tryz.func159, Tryz.ntmps159
  go_wp2_with fail
  all_goals (go_ret; exact ⟨zdb (by rw [HE.out]; (repeat' split) <;> simp_all), by (repeat' (first | exact Below.refl _ _ | assumption | refine zjg ?_ qaf | refine zf0 ?_ _ | refine zji ?_ | refine zfZ ?_ _ | refine bset ?_ ?_ _ | (show _ ≤ _; simp; omega) | (simp; done)))⟩)
 ·have HE := Lib.hid (show zbh true l b = if l < 0 ∨ 1099511627776 < l then 4 else if b % 2 = 0 then 14 else if l < 63 ∧ ¬ b / 2 ^ (l + 1).toNat = 0 then 14 else 0 by unfold zbh; rw [if_neg (by simp)])
  by_cases hl : l < 0 ∨ 1099511627776 < l
  ·have HE2 := Lib.hid (HE.out.trans (if_pos hl))
   clear HE
   rcases (show l < 0 ∨ (0 ≤ l ∧ 1099511627776 < l) by omega) with h | ⟨ha, hb⟩
   all_goals
    clear hl
    go_enter Tryz.func159, Tryz.ntmps159
    go_wp2_with fail
    go_ret
    exact ⟨zdb HE2.out.symm, by (repeat' (first | exact Below.refl _ _ | assumption | refine zjg ?_ qaf | refine zf0 ?_ _ | refine zji ?_ | refine zfZ ?_ _ | refine bset ?_ ?_ _ | (show _ ≤ _; simp; omega) | (simp; done)))⟩
  ·have hla : 0 ≤ l := qp
   have hlb : l ≤ 1099511627776 := qp
   have HA := zeX b hb0 hb1
   rcases (show b % 2 = 0 ∨ b % 2 = 1 by omega) with h2 | h2
   ·have HE2 := Lib.hid (show zbh true l b = 14 by rw [HE.out, if_neg hl, if_pos h2])
    have hd : (bits .and .u64 b 1 != 1) = true := by rw [show bits .and .u64 b 1 = 0 from HA.trans h2]; rfl
    clear hl HA h2
    go_enter Tryz.func159, Tryz.ntmps159
    go_wp2_with fail
    go_ret
    exact ⟨zdb HE2.out.symm, by (repeat' (first | exact Below.refl _ _ | assumption | refine zjg ?_ qaf | refine zf0 ?_ _ | refine zji ?_ | refine zfZ ?_ _ | refine bset ?_ ?_ _ | (show _ ≤ _; simp; omega) | (simp; done)))⟩
   ·have HE2 := Lib.hid (show zbh true l b = if l < 63 ∧ ¬ b / 2 ^ (l + 1).toNat = 0 then 14 else 0 by rw [HE.out, if_neg hl, if_neg (by omega)])
    have hd : (bits .and .u64 b 1 != 1) = false := by rw [show bits .and .u64 b 1 = 1 from HA.trans h2]; rfl
    clear hl HA h2
    go_enter Tryz.func159, Tryz.ntmps159
    go_wp2_with fail
    go_loop [3] (fun i => ∃ k : Int, 0 ≤ k ∧ k ≤ 64 ∧ i = .int .i64 k ∧ Hid (∀ j : Nat, j < k → l < j → b / 2 ^ j % 2 = 0)) (fun i => (64 - intOf i).toNat)
    case atStart => exact ⟨0, qp, qp, rfl, fun j hj => by omega⟩
    case round =>
     obtain ⟨k, hk1, hk2, rfl, HK⟩ := hrel
     by_cases hlt : k < 64
     ·have HB := odd64_shr b k.toNat hb0 hb1
      have hr := ziM b k.toNat hb0 hb1
      rcases (show b / 2 ^ k.toNat % 2 = 0 ∨ b / 2 ^ k.toNat % 2 = 1 by omega) with hbit | hbit
      ·have hd : (bits .and .u64 (b / 2 ^ k.toNat) 1 == 1) = false := by rw [show bits .and .u64 (b / 2 ^ k.toNat) 1 = 0 from HB.trans hbit]; rfl
       have HB := Lib.hid hbit
       clear hbit hr
       go_wp2
       go_round
       case rel =>
        refine ⟨k + 1, qp, qp, by go_num, fun j hj hlj => ?_⟩
        by_cases hjk : (j : Int) < k
        ·exact HK.out j hjk hlj
        ·obtain rfl : j = k.toNat := qp
         exact HB.out
       case measure => simp [intOf]; omega
      ·have hd : (bits .and .u64 (b / 2 ^ k.toNat) 1 == 1) = true := by rw [show bits .and .u64 (b / 2 ^ k.toNat) 1 = 1 from HB.trans hbit]; rfl
       have HB := Lib.hid hbit
       clear hbit hr
       by_cases hlk : l < k
       ·go_wp2
        go_ret
        exact ⟨zdb (by rw [HE2.out, if_pos (bits_high' l b k.toNat hb0 hla (by omega) (by omega) HB.out)]), by (repeat' (first | exact Below.refl _ _ | assumption | refine zjg ?_ qaf | refine zf0 ?_ _ | refine zji ?_ | refine zfZ ?_ _ | refine bset ?_ ?_ _ | (show _ ≤ _; simp; omega) | (simp; done)))⟩
       ·go_wp2
        go_round
        case rel =>
         refine ⟨k + 1, qp, qp, by go_num, fun j hj hlj => ?_⟩
         by_cases hjk : (j : Int) < k
         ·exact HK.out j hjk hlj
         ·omega
        case measure => simp [intOf]; omega
     ·obtain rfl : k = 64 := qp
      go_wp2
      go_ret
      exact ⟨zdb (by rw [HE2.out, if_neg (bits_high l b hb0 hb1 hla (fun j hj hlj => HK.out j (by omega) hlj))]), by (repeat' (first | exact Below.refl _ _ | assumption | refine zjg ?_ qaf | refine zf0 ?_ _ | refine zji ?_ | refine zfZ ?_ _ | refine bset ?_ ?_ _ | (show _ ≤ _; simp; omega) | (simp; done)))⟩
theorem winCheck_s (s : Bool) (l b : Int) (hb0 : 0 ≤ b) (hb1 : b < 18446744073709551616) (hl0 : -9223372036854775808 ≤ l) (hl1 : l < 9223372036854775808) : Fn prog 152 [.agg [qf s, qd l, .p (.v (.int .u64 b))]] (qd (zbh s l b)) [] :=
 zfS rfl (fun _ _ _ => za1 rfl) (winCheck_g s l b hb0 hb1 hl0 hl1)
theorem refWinFault_s (s : Bool) (l b : Int) (hb0 : 0 ≤ b) (hb1 : b < 18446744073709551616) (hl0 : -9223372036854775808 ≤ l) (hl1 : l < 9223372036854775808) : Fn prog 159 [.agg [qf s, qd l, .p (.v (.int .u64 b))]] (qd (zbh s l b)) [] :=
 zfS rfl (fun _ _ _ => za1 rfl) (refWinFault_g s l b hb0 hb1 hl0 hl1)
structure KY where
 live : Bool
 send : ByteArray
 take : ByteArray
 mine : Int
 theirs : Int
 born : Int
 counter : Int
 ss : Bool
 sl : Int
 sb : Int
 first : Bool
def KY.vals (k : KY) : List Value := [.bool k.live, .string k.send, .string k.take, .int .i64 k.mine, .int .i64 k.theirs, .int .i64 k.born, .int .i64 k.counter, .bool k.ss, .int .i64 k.sl, .int .u64 k.sb, .bool k.first]
def KY.pv (k : KY) : List PV := [.v (.bool k.live), qg k.send, qg k.take, qh k.mine, qh k.theirs, qh k.born, qh k.counter, .v (.bool k.ss), qh k.sl, .v (.int .u64 k.sb), .v (.bool k.first)]
def KY.cells (k : KY) : List AV := [qf k.live, qc k.send, qc k.take, qd k.mine, qd k.theirs, qd k.born, qd k.counter, qf k.ss, qd k.sl, .p (.v (.int .u64 k.sb)), qf k.first]
def KY0 : KY := ⟨false, ⟨#[]⟩, ⟨#[]⟩, 0, 0, 0, 0, false, 0, 0, false⟩
structure KY.OK (k : KY) : Prop where
 sb0 : 0 ≤ k.sb
 sb1 : k.sb < 18446744073709551616
 sl0 : -9223372036854775808 ≤ k.sl
 sl1 : k.sl < 9223372036854775808
 m0 : -9223372036854775808 ≤ k.mine
 m1 : k.mine ≤ 9223372036854775807
 t0 : -9223372036854775808 ≤ k.theirs
 t1 : k.theirs ≤ 9223372036854775807
 b0 : -9223372036854775808 ≤ k.born
 b1 : k.born ≤ 9223372036854775807
 c0 : -9223372036854775808 ≤ k.counter
 c1 : k.counter ≤ 9223372036854775807
 s0 : k.send.size ≤ 140737488351232
 s1 : k.take.size ≤ 140737488351232
theorem KY0.ok : KY0.OK := by constructor <;> decide
noncomputable def KY.zero (k : KY) : Bool := eqL k.vals KY0.vals
def KY.bad (k : KY) : Bool := (((((((decide (k.mine < 1) || decide (4294967295 < k.mine)) || decide (k.theirs < 1)) || decide (4294967295 < k.theirs)) || decide (k.born < 0)) || decide (1099511627776 < k.born)) || decide (k.counter < 0)) || decide (1099511627776 < k.counter))
noncomputable def kE (k : KY) : Int :=
 if k.live = false then (if k.zero = true then 0 else 14)
 else if keyE k.send ≠ 0 then keyE k.send else if keyE k.take ≠ 0 then keyE k.take else if k.bad = true then 4 else zbh k.ss k.sl k.sb
theorem kE_live {k : KY} (h : kE k = 0) (hl : k.live = true) : keyE k.send = 0 ∧ keyE k.take = 0 ∧ k.bad = false ∧ zbh k.ss k.sl k.sb = 0 := by
 unfold kE at h
 rw [if_neg (by simp [hl])] at h
 by_cases h1 : keyE k.send = 0
 ·rw [if_neg (by simp [h1])] at h
  by_cases h2 : keyE k.take = 0
  ·rw [if_neg (by simp [h2])] at h
   by_cases h3 : k.bad = true
   ·rw [if_pos h3] at h; omega
   ·rw [if_neg h3] at h
    exact ⟨h1, h2, by simpa using h3, h⟩
  ·rw [if_pos h2] at h; exact absurd h h2
 ·rw [if_pos h1] at h; exact absurd h h1
theorem kE_bounds {k : KY} (h : kE k = 0) (hl : k.live = true) : 1 ≤ k.mine ∧ k.mine ≤ 4294967295 ∧ 1 ≤ k.theirs ∧ k.theirs ≤ 4294967295 ∧ 0 ≤ k.counter ∧ k.counter ≤ 1099511627776 ∧ 0 ≤ k.born ∧ k.born ≤ 1099511627776 := by
 have h3 := (kE_live h hl).2.2.1
 unfold KY.bad at h3
 simp at h3
 omega
theorem KY.eqL_iff {a b : KY} : eqL a.vals b.vals = true ↔ a = b := by
 rw [zaN]
 constructor
 ·intro h
  cases a; cases b
  simpa [KY.vals] using h
 ·intro h; rw [h]
theorem KY.zero_iff {k : KY} : k.zero = true ↔ k = KY0 := KY.eqL_iff
theorem kcheck_s (k : KY) (ok : k.OK) : Fn prog 104 [.agg k.cells] (qd (kE k)) [] := by
 have hW := winCheck_s k.ss k.sl k.sb ok.sb0 ok.sb1 ok.sl0 ok.sl1
 refine fnI fun w0 A => ?_
 refine G [12, 9, 0] ?_
 refine cX ?_ ?_ <;> intro h
 ·exact jaY
 have hl : k.live = true := qz
 clear h
 have hE : kE k = if keyE k.send ≠ 0 then keyE k.send else if keyE k.take ≠ 0 then keyE k.take else if k.bad = true then 4 else zbh k.ss k.sl k.sb := by unfold kE; rw [if_neg (by simp [hl])]
 rw [hE]
 refine G [8] ?_
 refine zaa (xs := [qc k.send, qc k.take]) (zeR (es := [qc k.send, qc k.take]) underlying209 zr209 rfl sz9 qr) qP rfl ?_
 refine G [3] ?_
 refine zac (fun m st => ∃ i : Nat, m + i = 2 ∧ (1 ≤ i → keyE k.send = 0) ∧ (2 ≤ i → keyE k.take = 0) ∧ st = St.of [(1, .ref 1 0), (16, .agg [qc k.send, qc k.take]), (17, qd i)] [(1, .box 53 k.cells)]) 2 ?_ ?_
 ·refine ⟨_, zae id _ _ ?_ ?_ rfl, 0, qp, qp, qp, rfl⟩
  ·exact jap
  ·exact ja3
 rintro m st ⟨i, hi, hi1, hi2, rfl⟩
 refine G [5] ?_
 refine cX ?_ ?_ <;> intro h
 ·have hlt : i < 2 := qu
  clear h
  obtain ⟨x, hx, hxa, hxb⟩ : ∃ x : ByteArray, [AV.p (qg k.send), AV.p (qg k.take)][i]? = some (qc x) ∧ (i = 0 → x = k.send) ∧ (i = 1 → x = k.take) := by
   match i, hlt with
   | 0, _ => exact ⟨k.send, rfl, fun _ => rfl, qp⟩
   | 1, _ => exact ⟨k.take, rfl, qp, fun _ => rfl⟩
  refine G [5] ?_
  refine zaa (zc0 underlying209 sz9 U9 rfl qp qp qZ) rfl rfl ?_
  refine G [5] ?_
  refine cV (zb2 x) ?_
  refine jdv ?_
  refine cX ?_ ?_ <;> intro h
  ·have hne : keyE x ≠ 0 := qz
   have hE2 : (if keyE k.send ≠ 0 then keyE k.send else if keyE k.take ≠ 0 then keyE k.take else if k.bad = true then 4 else zbh k.ss k.sl k.sb) = keyE x := by
    match i, hlt with
    | 0, _ => rw [hxa rfl] at hne ⊢; rw [if_pos hne]
    | 1, _ => rw [hxb rfl] at hne ⊢; rw [if_neg (by simp [hi1 (by omega)]), if_pos hne]
   rw [hE2]
   exact jaH
  ·have he : keyE x = 0 := qz
   refine jdD ?_
   refine ⟨m - 1, qp, _, zae id _ _ ?_ ?_ rfl, i + 1, qp, ?_, ?_, rfl⟩
   ·exact jap
   ·exact ja3
   ·intro _
    by_cases h0 : i = 0
    ·rw [← hxa h0]; exact he
    ·exact hi1 qp
   ·intro _
    rw [← hxb (by omega)]; exact he
 have hge : i = 2 := qu
 clear h
 subst hge
 have ha := hi1 qp
 have hb := hi2 qp
 rw [if_neg (by simp [ha]), if_neg (by simp [hb])]
 clear hE
 refine G [11, 2, 4, 2, 4, 2, 4, 2, 4, 2, 4, 2, 4, 2, 1, 9, 0] ?_
 refine cX ?_ ?_ <;> intro h
 ·have h' : k.bad = true := h
  rw [if_pos h']
  exact ja4
 ·have h' : k.bad = false := h
  rw [if_neg (by simp [h'])]
  refine G [5] ?_
  refine cV hW ?_
  exact jbm
theorem idx_s (n : Int) : Fn prog 158 [qd n] (qf (decide (0 < n) && decide (n < 4294967296))) [] := by
 refine fnI fun w0 A => ?_
 refine G [11, 2, 3, 9, 0] ?_
 exact yE
theorem refKFault_s (k : KY) (ok : k.OK) : Fn prog 118 [.agg k.cells] (qd (kE k)) [] := by
 have hW := refWinFault_s k.ss k.sl k.sb ok.sb0 ok.sb1 ok.sl0 ok.sl1
 refine fnI fun w0 A => ?_
 refine G [12, 9, 0] ?_
 refine cX ?_ ?_ <;> intro h
 ·exact jaY
 have hl : k.live = true := qz
 clear h
 have hE : kE k = if keyE k.send ≠ 0 then keyE k.send else if keyE k.take ≠ 0 then keyE k.take else if k.bad = true then 4 else zbh k.ss k.sl k.sb := by unfold kE; rw [if_neg (by simp [hl])]
 rw [hE]
 refine G [6] ?_
 refine cV (zbP k.send) ?_
 refine jdv ?_
 refine cX ?_ ?_ <;> intro h
 ·have hne : keyE k.send ≠ 0 := qz
  rw [if_pos hne]
  exact jaH
 have ha : keyE k.send = 0 := qz
 clear h
 rw [if_neg (by simp [ha])]
 refine G [6] ?_
 refine cV (zbP k.take) ?_
 refine jdv ?_
 refine cX ?_ ?_ <;> intro h
 ·have hne : keyE k.take ≠ 0 := qz
  rw [if_pos hne]
  exact jaH
 have hb : keyE k.take = 0 := qz
 clear h
 rw [if_neg (by simp [hb])]
 clear hE
 have hbad2 : k.bad = ((((((!(decide (0 < k.mine) && decide (k.mine < 4294967296))) || (!(decide (0 < k.theirs) && decide (k.theirs < 4294967296)))) || decide (k.born < 0)) || decide (1099511627776 < k.born)) || decide (k.counter < 0)) || decide (1099511627776 < k.counter)) := by
  unfold KY.bad
  rw [qbX]
  simp
  omega
 refine G [11] ?_
 refine cV (idx_s k.mine) ?_
 refine G [2] ?_
 refine mb2 _ rfl rfl (fun hb => (zaF (r := .fn _ _))) (fun _ => trivial) ?_
 refine G [2] ?_
 refine mb2 _ rfl rfl (fun _ => zbc func158 rfl rfl (idx_s k.theirs) qw rfl) (fun _ => trivial) ?_
 refine G [1, 2, 4, 2, 4, 2, 4, 2, 4, 2, 1, 9, 0] ?_
 refine cX ?_ ?_ <;> intro h
 ·have h' : k.bad = true := hbad2.trans h
  rw [if_pos h']
  exact ja4
 ·have h' : k.bad = false := hbad2.trans h
  rw [if_neg (by simp [h'])]
  refine G [5] ?_
  refine cV hW ?_
  exact jbm
theorem KY.of_ty {n : Nat} {ps : List PV} (h : Ty Tryz.prog (n + 3) 53 ps) : ∃ k : KY, k.OK ∧ ps = k.pv := by
 obtain ⟨_, rfl, x0, _, rfl, t0, x1, _, rfl, t1, x2, _, rfl, t2, x3, _, rfl, t3, x4, _, rfl, t4, x5, _, rfl, t5, x6, _, rfl, t6, x7, _, rfl, t7, x8, _, rfl, t8, rfl⟩ := zbi (ts := [4, 9, 9, 3, 3, 3, 3, 51, 4]) qr h
 obtain ⟨_, rfl, y0, _, rfl, u0, y1, _, rfl, u1, y2, _, rfl, u2, rfl⟩ := zbi (ts := [4, 3, 49]) qr t7
 obtain ⟨a0, rfl⟩ := zhf U4 t0
 obtain ⟨a1, rfl, w1⟩ := zbD U9 t1
 obtain ⟨a2, rfl, w2⟩ := zbD U9 t2
 obtain ⟨a3, rfl, w3⟩ := zbz U3 t3
 obtain ⟨a4, rfl, w4⟩ := zbz U3 t4
 obtain ⟨a5, rfl, w5⟩ := zbz U3 t5
 obtain ⟨a6, rfl, w6⟩ := zbz U3 t6
 obtain ⟨a8, rfl⟩ := zhf U4 t8
 obtain ⟨b0, rfl⟩ := zhf U4 u0
 obtain ⟨b1, rfl, v1⟩ := zbz U3 u1
 obtain ⟨b2, rfl, v2⟩ := zbz Tryz.underlying49 u2
 refine ⟨⟨a0, a1, a2, a3, a4, a5, a6, b0, b1, b2, a8⟩, ?_, rfl⟩
 have := zeS w3; have := zeS w4; have := zeS w5; have := zeS w6; have := zeS v1; have := wf_u64 v2
 exact jdo
structure HS where
 lv : Bool
 mine : Int
 nc : ByteArray
 b : Int
 s : Int
def HS.cells (x : HS) : List AV := [qf x.lv, qd x.mine, qc x.nc, qd x.b, qd x.s]
def HS.pv (x : HS) : List PV := [.v (.bool x.lv), qh x.mine, qg x.nc, qh x.b, qh x.s]
theorem HS.of_ty {n : Nat} {ps : List PV} (h : Ty Tryz.prog (n + 3) 57 ps) : ∃ x : HS, -9223372036854775808 ≤ x.mine ∧ x.mine ≤ 9223372036854775807 ∧ x.nc.size ≤ 140737488351232 ∧ ps = x.pv := by
 obtain ⟨_, rfl, x0, _, rfl, t0, x1, _, rfl, t1, x2, _, rfl, t2, x3, _, rfl, t3, x4, _, rfl, t4, rfl⟩ := zbi (ts := [4, 3, 9, 3, 3]) qr h
 obtain ⟨a0, rfl⟩ := zhf U4 t0
 obtain ⟨a1, rfl, w1⟩ := zbz U3 t1
 obtain ⟨a2, rfl, w2⟩ := zbD U9 t2
 obtain ⟨a3, rfl, w3⟩ := zbz U3 t3
 obtain ⟨a4, rfl, w4⟩ := zbz U3 t4
 obtain ⟨q0, q1⟩ := zeS w1
 exact ⟨⟨a0, a1, a2, a3, a4⟩, q0, q1, w2, rfl⟩
structure PQ where
 a : Int
 b : Int
 xs : List Int
def PQ.pv (p : PQ) : List PV := [qi p.a, qi p.b, .sl p.xs.length 1 (bs p.xs)]
theorem pchk_s (a b : Int) (n : Nat) (cs : List PV) (hn : n ≤ 140737488355328) : Fn prog 105 [.agg [qe a, qe b, ql n 1 cs]] (qd (if 200 < n then 1 else 0)) [] := by
 refine fnI fun w0 A => ?_
 refine G [13, 9, 0] ?_
 refine cX ?_ ?_ <;> intro h
 ·have h1 : 200 < n := qu
  rw [if_pos h1]
  exact ja4
 ·have h1 : ¬ 200 < n := qu
  rw [if_neg h1]
  exact jaH
def zdK (a b c : KY) : List AV := a.cells ++ b.cells ++ c.cells
def zho (a b c : KY) : List PV := a.pv ++ b.pv ++ c.pv
def zh6 (a b c : KY) (i : Nat) : KY := if i = 0 then a else if i = 1 then b else c
theorem three_at (a b c : KY) (i : Nat) (h : i < 3) : ((zdK a b c).drop (i * 11)).take 11 = (zh6 a b c i).cells := by
 exact jdm
theorem three_atV (a b c : KY) (i : Nat) (h : i < 3) : ((zho a b c).drop (i * 11)).take 11 = (zh6 a b c i).pv := by
 exact jdm
theorem three_ok {a b c : KY} (ha : a.OK) (hb : b.OK) (hc : c.OK) (i : Nat) : (zh6 a b c i).OK := by
 unfold zh6
 split
 ·exact ha
 ·split
  ·exact hb
  ·exact hc
structure ST where
 key : ByteArray
 ep : ByteArray
 a : KY
 b : KY
 c : KY
 h : HS
 q : List PQ
def HS0 : HS := ⟨false, 0, ⟨#[]⟩, 0, 0⟩
def stC (key ep : ByteArray) (a b c : KY) (h : HS) (n : Nat) (q : List PV) : List AV := [qc key, qc ep] ++ zdK a b c ++ h.cells ++ [ql n 3 q]
def ST.cells (s : ST) : List AV := stC s.key s.ep s.a s.b s.c s.h s.q.length (s.q.flatMap PQ.pv)
def ST.pv (s : ST) : List PV := [qg s.key, qg s.ep] ++ zho s.a s.b s.c ++ s.h.pv ++ [.sl s.q.length 3 (s.q.flatMap PQ.pv)]
structure ST.OK (s : ST) : Prop where
 ep : s.ep.size < 4294967281
 a : s.a.OK
 b : s.b.OK
 c : s.c.OK
 q : s.q.length ≤ 1048576
 qx : ∀ p ∈ s.q, p.xs.length ≤ 1048576
def hsE (h : HS) : Int :=
 if h.lv = false then (if h.mine = 0 ∧ h.nc = ⟨#[]⟩ ∧ h.b = 0 ∧ h.s = 0 then 0 else 14) else if h.nc.size ≠ 16 then 1 else if hexE h.nc ≠ 0 then hexE h.nc
 else if h.mine < 1 ∨ 4294967295 < h.mine ∨ h.b < 0 ∨ h.s < h.b ∨ 1099511627776 < h.s then 4 else 0
noncomputable def ksE (a b c : KY) : Int := fnz (fun i => kE (zh6 a b c i)) 3
def pqG (l : List PQ) (i : Nat) : PQ := l.getD i ⟨0, 0, []⟩
def pqE (l : List PQ) : Int := fnz (fun i => if 200 < (pqG l i).xs.length then 1 else 0) l.length
noncomputable def stE (s : ST) : Int :=
 if keyE s.key ≠ 0 then keyE s.key else if ksE s.a s.b s.c ≠ 0 then ksE s.a s.b s.c else if hsE s.h ≠ 0 then hsE s.h
 else if s.ep ≠ ⟨#[]⟩ ∧ enE s.ep ≠ 0 then enE s.ep else if 3 < s.q.length then 1 else pqE s.q
theorem eqHand (m : Int) (n : ByteArray) (b s : Int) : eqL [.bool false, .int .i64 m, .string n, .int .i64 b, .int .i64 s] [.bool false, .int .i64 0, .string ⟨#[]⟩, .int .i64 0, .int .i64 0] = decide (m = 0 ∧ n = ⟨#[]⟩ ∧ b = 0 ∧ s = 0) := by
 rw [qbX, zaN]
 simp
theorem tright_s (s : ST) (ok : s.OK) : Fn prog 69 [.agg s.cells] (qd (stE s)) [] := by
 obtain ⟨key, ep, a, b, c, h0, q⟩ := s
 obtain ⟨hep, oa, ob, oc, hq, hqx⟩ := ok
 dsimp only at hep oa ob oc hq hqx
 obtain ⟨E, hE⟩ : ∃ E, stE ⟨key, ep, a, b, c, h0, q⟩ = E := ⟨_, rfl⟩
 rw [hE]
 unfold stE at hE
 dsimp only at hE
 have hK := zb2 key
 have hEn := end_s ep hep
 obtain ⟨ea, eb, hen⟩ := enR_e ep
 rw [hen] at hEn
 clear hen
 have h3a := three_at a b c
 have h3o := three_ok oa ob oc
 have hks : ksE a b c = fnz (fun i => kE (zh6 a b c i)) 3 := rfl
 generalize hT : zh6 a b c = T at *
 show Fn prog _ [.agg (stC key ep a b c h0 q.length (q.flatMap PQ.pv))] _ _
 generalize keyE key = k1 at *
 generalize enE ep = e1 at *
 refine fnI fun w0 A => ?_
 refine G [10] ?_
 refine cV hK ?_
 refine jdv ?_
 refine cX ?_ ?_ <;> intro h
 ·exact jcZ
 have h1 : k1 = 0 := qz
 clear h
 rw [if_neg (by simp [h1])] at hE
 refine G [6] ?_
 refine jet ?_
 refine G [2] ?_
 refine jeu ?_
 refine G [2] ?_
 refine jev ?_
 refine zaa (xs := [.agg a.cells, .agg b.cells, .agg c.cells]) (zeR (es := (a.cells ++ b.cells ++ c.cells)) underlying154 zr154 rfl sz53 qr) qP rfl ?_
 refine G [3] ?_
 refine zac (fun m st => ∃ i : Nat, m + i = 3 ∧ (∀ j, j < i → kE (T j) = 0) ∧ st = St.of [(1, .ref 1 0), (31, .agg (zdK a b c)), (32, qd i)] [(1, .box 60 (stC key ep a b c h0 q.length (q.flatMap PQ.pv)))]) 3 ?_ ?_
 ·exact jaA
 rintro m st ⟨i, hi, hf, rfl⟩
 refine G [5] ?_
 refine cX ?_ ?_ <;> intro h
 ·have hlt : i < 3 := qu
  clear h
  have hix := h3a i hlt
  have hC := kcheck_s (T i) (h3o i)
  have hhit := @zca (fun i => kE (T i)) i 3 hf hlt
  generalize hTx : T i = x at *
  refine G [5] ?_
  refine zaa (a_indexN underlying154 sz53 U53 rfl qp qp (show _ = x.cells by rw [qbx]; exact hix)) rfl rfl ?_
  refine jeY ?_
  refine cX ?_ ?_ <;> intro h
  ·have hne : kE x ≠ 0 := qz
   rw [hks, hhit hne, if_pos hne] at hE
   subst hE
   exact jaH
  have he : kE x = 0 := qz
  refine jdD ?_
  refine ⟨m - 1, qp, _, zae id _ _ ?_ ?_ rfl, i + 1, qp, fun j hj => ?_, rfl⟩
  ·exact jap
  ·exact ja3
  ·by_cases ej : j = i
   ·rw [ej, hTx]; exact he
   ·exact hf j qp
 have hge : i = 3 := qu
 clear h
 subst hge
 rw [hks, zcP hf, if_neg (by simp)] at hE
 clear hf h3a h3o hks hT
 obtain ⟨lv, mine, nc, hb, hs⟩ := h0
 unfold hsE at hE
 dsimp only at hE
 have hN := zgs nc
 refine G [4] ?_
 refine jdW ?_
 refine jfc (zaW 7 zr57 rfl) ?_
 refine jeg ?_
 refine zaf ?_
 cases lv with
 | false =>
  rw [if_pos rfl] at hE
  by_cases hz : mine = 0 ∧ nc = ⟨#[]⟩ ∧ hb = 0 ∧ hs = 0
  ·rw [if_pos hz, if_neg (by simp)] at hE
   refine G [7] ?_
   refine jdV ?_
   refine jfb (zbT pl57 zr57 rfl rfl) ?_
   refine zaa (zak U57 rfl rfl qr qr qr (c := false) (by rw [eqHand]; simp [hz])) rfl rfl ?_
   refine G [11] ?_
   by_cases h4 : ep ≠ ⟨#[]⟩ ∧ e1 ≠ 0
   ·rw [if_pos h4] at hE
    subst hE
    refine jdQ ?_
    exact jbj
   rw [if_neg h4] at hE
   refine jdQ ?_
   refine zdp (St.of [(1, .ref 1 0)] [(1, .box 60 (stC key ep a b c ⟨false, mine, nc, hb, hs⟩ q.length (q.flatMap PQ.pv)))]) ?_ ?_
   ·exact jaN
   clear h4
   refine jdQ ?_
   refine cX ?_ ?_ <;> intro h
   ·exact jb6
   have h5 : ¬ 3 < q.length := qu
   clear h
   rw [if_neg h5] at hE
   unfold pqE at hE
   obtain ⟨f, hF⟩ : ∃ f, (fun i => if 200 < (pqG q i).xs.length then 1 else 0 : Nat → Int) = f := ⟨_, rfl⟩
   rw [hF] at hE
   refine G [10] ?_
   refine zac (fun m st => ∃ i : Nat, m + i = q.length ∧ (∀ j, j < i → f j = 0) ∧ st = St.of [(109, ql q.length 3 (q.flatMap PQ.pv)), (110, qd q.length), (111, qd i)] []) q.length ?_ ?_
   ·exact jbU
   rintro m st ⟨i, hi, hf, rfl⟩
   refine G [5] ?_
   refine cX ?_ ?_ <;> intro h
   ·have hlt : i < q.length := qu
    clear h
    obtain ⟨p, hp⟩ := qo hlt
    have hch := zaj (f := PQ.pv) (k := 3) (fun _ => rfl) hp
    have hle := zai (f := PQ.pv) (k := 3) (fun _ => rfl) hlt
    have hpx := hqx p (qbh hp)
    have hhit := @zca f i q.length hf hlt
    have hfi : f i = if 200 < p.xs.length then 1 else 0 := qQ
    obtain ⟨pa, pb, xs⟩ := p
    dsimp only at hpx hfi
    change _ = [PV.v (.int .u32 pa), qi pb, .sl xs.length 1 (bs xs)] at hch
    have hC := pchk_s pa pb xs.length (bs xs) qp
    generalize hL : q.flatMap PQ.pv = L at *
    generalize bs xs = X at *
    generalize xs.length = N at *
    refine je3 ?_
    by_cases h6 : 200 < N
    ·exact jcJ
    ·rw [if_neg h6] at hC
     refine G [3] ?_
     refine cK hC ?_
     refine G [5, 1, 7, 9, 0] ?_
     exact jbs
   have hge : i = q.length := qu
   clear h
   subst hge
   rw [zcP hf] at hE
   subst hE
   refine jdI ?_
   exact yE
  ·rw [if_neg hz, if_pos (by decide)] at hE
   subst hE
   refine G [7] ?_
   refine jdV ?_
   refine jfb (zbT pl57 zr57 rfl rfl) ?_
   refine zaa (zak U57 rfl rfl qr qr qr (c := true) (by rw [eqHand]; simp only [qcn, decide_eq_false_iff_not]; exact hz)) rfl rfl ?_
   exact jbh
 | true =>
  rw [if_neg (show ¬ true = false by decide)] at hE
  refine G [29, 9, 0] ?_
  refine cX ?_ ?_ <;> intro h
  ·exact jde
  have h2 : nc.size = 16 := qu
  clear h
  rw [if_neg (show ¬ nc.size ≠ 16 by simp [h2])] at hE
  by_cases h3 : hexE nc ≠ 0
  ·exact jbL
  rw [if_neg h3] at hE
  replace h3 : hexE nc = 0 := qbk.1 h3
  obtain ⟨g1, g2⟩ := zcB h3
  rw [g1, g2] at hN
  clear g1 g2
  refine G [6] ?_
  refine cV hN ?_
  refine G [9, 1, 12, 2, 4, 2, 6, 2, 4, 2, 1, 9, 0] ?_
  refine cX ?_ ?_ <;> intro h
  ·exact jcr
  have h5 : ¬ (mine < 1 ∨ 4294967295 < mine ∨ hb < 0 ∨ hs < hb ∨ 1099511627776 < hs) := qu
  clear h
  rw [if_neg h5, if_neg (by simp)] at hE
  by_cases h4 : ep ≠ ⟨#[]⟩ ∧ e1 ≠ 0
  ·rw [if_pos h4] at hE
   subst hE
   refine jdQ ?_
   exact jbj
  rw [if_neg h4] at hE
  refine jdQ ?_
  refine zdp (St.of [(1, .ref 1 0)] [(1, .box 60 (stC key ep a b c ⟨true, mine, nc, hb, hs⟩ q.length (q.flatMap PQ.pv)))]) ?_ ?_
  ·exact jaN
  clear h4
  refine jdQ ?_
  refine cX ?_ ?_ <;> intro h
  ·exact jb6
  have h5 : ¬ 3 < q.length := qu
  clear h
  rw [if_neg h5] at hE
  unfold pqE at hE
  obtain ⟨f, hF⟩ : ∃ f, (fun i => if 200 < (pqG q i).xs.length then 1 else 0 : Nat → Int) = f := ⟨_, rfl⟩
  rw [hF] at hE
  refine G [10] ?_
  refine zac (fun m st => ∃ i : Nat, m + i = q.length ∧ (∀ j, j < i → f j = 0) ∧ st = St.of [(109, ql q.length 3 (q.flatMap PQ.pv)), (110, qd q.length), (111, qd i)] []) q.length ?_ ?_
  ·exact jbU
  rintro m st ⟨i, hi, hf, rfl⟩
  refine G [5] ?_
  refine cX ?_ ?_ <;> intro h
  ·have hlt : i < q.length := qu
   clear h
   obtain ⟨p, hp⟩ := qo hlt
   have hch := zaj (f := PQ.pv) (k := 3) (fun _ => rfl) hp
   have hle := zai (f := PQ.pv) (k := 3) (fun _ => rfl) hlt
   have hpx := hqx p (qbh hp)
   have hhit := @zca f i q.length hf hlt
   have hfi : f i = if 200 < p.xs.length then 1 else 0 := qQ
   obtain ⟨pa, pb, xs⟩ := p
   dsimp only at hpx hfi
   change _ = [PV.v (.int .u32 pa), qi pb, .sl xs.length 1 (bs xs)] at hch
   have hC := pchk_s pa pb xs.length (bs xs) qp
   generalize hL : q.flatMap PQ.pv = L at *
   generalize bs xs = X at *
   generalize xs.length = N at *
   refine je3 ?_
   by_cases h6 : 200 < N
   ·exact jcJ
   ·rw [if_neg h6] at hC
    refine G [3] ?_
    refine cK hC ?_
    refine G [13, 9, 0] ?_
    exact jbs
  have hge : i = q.length := qu
  clear h
  subst hge
  rw [zcP hf] at hE
  subst hE
  refine jdI ?_
  exact yE
theorem refState_s (s : ST) (ok : s.OK) : Fn prog 84 [.agg s.cells] (qd (stE s)) [] := by
 obtain ⟨key, ep, a, b, c, h0, q⟩ := s
 obtain ⟨hep, oa, ob, oc, hq, hqx⟩ := ok
 dsimp only at hep oa ob oc hq hqx
 obtain ⟨E, hE⟩ : ∃ E, stE ⟨key, ep, a, b, c, h0, q⟩ = E := ⟨_, rfl⟩
 rw [hE]
 unfold stE at hE
 dsimp only at hE
 have hK := zbP key
 have hEn := ziO ep hep
 obtain ⟨ea, eb, hen⟩ := enR_e ep
 rw [hen] at hEn
 clear hen
 have h3a := three_atV a b c
 have h3o := three_ok oa ob oc
 have hks : ksE a b c = fnz (fun i => kE (zh6 a b c i)) 3 := rfl
 generalize hT : zh6 a b c = T at *
 show Fn prog _ [.agg (stC key ep a b c h0 q.length (q.flatMap PQ.pv))] _ _
 generalize keyE key = k1 at *
 generalize enE ep = e1 at *
 refine fnI fun w0 A => ?_
 refine G [10] ?_
 refine cV hK ?_
 refine jdv ?_
 refine cX ?_ ?_ <;> intro h
 ·exact jcZ
 have h1 : k1 = 0 := qz
 clear h
 rw [if_neg (by simp [h1])] at hE
 refine G [6] ?_
 refine jet ?_
 refine G [2] ?_
 refine jeu ?_
 refine G [2] ?_
 refine jev ?_
 refine zab (xs := [.agg a.cells, .agg b.cells, .agg c.cells]) (zag (es := (a.cells ++ b.cells ++ c.cells)) (cs := (a.pv ++ b.pv ++ c.pv)) 30 underlying167 sz53 zc53 (qbe rfl) (qbe rfl) rfl qr qr qr (qbe rfl)) qP rfl ⟨rfl, trivial⟩ ?_
 refine G [4] ?_
 refine zac (fun m st => ∃ i : Nat, m + i = 3 ∧ (∀ j, j < i → kE (T j) = 0) ∧ st = St.of [(1, .ref 1 0), (30, .row 30), (31, qd 3), (32, qd i)] [(1, .box 60 (stC key ep a b c h0 q.length (q.flatMap PQ.pv))), (30, .row 53 11 3 (zho a b c))]) 3 ?_ ?_
 ·exact jaT
 rintro m st ⟨i, hi, hf, rfl⟩
 refine G [5] ?_
 refine cX ?_ ?_ <;> intro h
 ·have hlt : i < 3 := qu
  clear h
  have hix := h3a i hlt
  have hsl : (zho a b c).length = 33 := rfl
  have hC := refKFault_s (T i) (h3o i)
  have hhit := @zca (fun i => kE (T i)) i 3 hf hlt
  generalize hTx : T i = x at *
  refine G [5] ?_
  refine zab (zat underlying167 sz53 qp qp (show _ = i * 11 by omega)) rfl rfl ⟨rfl, trivial⟩ ?_
  refine zab (zeP U53 rfl sz53 qp (hix)) rfl rfl ⟨rfl, trivial⟩ ?_
  refine jeY ?_
  refine cX ?_ ?_ <;> intro h
  ·have hne : kE x ≠ 0 := qz
   rw [hks, hhit hne, if_pos hne] at hE
   subst hE
   exact jaH
  have he : kE x = 0 := qz
  refine jdD ?_
  refine ⟨m - 1, qp, _, zae id _ _ ?_ ?_ rfl, i + 1, qp, fun j hj => ?_, rfl⟩
  ·exact jap
  ·exact ja5
  ·by_cases ej : j = i
   ·rw [ej, hTx]; exact he
   ·exact hf j qp
 have hge : i = 3 := qu
 clear h
 subst hge
 rw [hks, zcP hf, if_neg (by simp)] at hE
 clear hf h3a h3o hks hT
 obtain ⟨lv, mine, nc, hb, hs⟩ := h0
 unfold hsE at hE
 dsimp only at hE
 have hN := zgf nc
 refine G [4] ?_
 refine jdW ?_
 refine jfc (zaW 7 zr57 rfl) ?_
 refine jeg ?_
 refine zaf ?_
 cases lv with
 | false =>
  rw [if_pos rfl] at hE
  refine G [16, 2, 4, 2, 4, 2, 1, 9, 0] ?_
  refine cX ?_ ?_ <;> intro h
  ·have hz : ¬ (mine = 0 ∧ nc = ⟨#[]⟩ ∧ hb = 0 ∧ hs = 0) := by
    intro ⟨z1, z2, z3, z4⟩
    simp [z1, z2, z3, z4] at h
   rw [if_neg hz, if_pos (by decide)] at hE
   subst hE
   exact ja4
  have hz : mine = 0 ∧ nc = ⟨#[]⟩ ∧ hb = 0 ∧ hs = 0 := by
   simp at h
   grind
  clear h
  rw [if_pos hz, if_neg (by simp)] at hE
  refine G [6] ?_
  refine cV hEn ?_
  refine G [16, 2, 1, 9, 0] ?_
  refine cX ?_ ?_ <;> intro h
  ·exact jci
  have h4 : ¬ (ep ≠ ⟨#[]⟩ ∧ e1 ≠ 0) := by
   intro ⟨h5, h6⟩
   simp [h5, h6] at h
  clear h
  rw [if_neg h4] at hE
  refine G [9, 9, 0] ?_
  refine cX ?_ ?_ <;> intro h
  ·exact jb6
  have h5 : ¬ 3 < q.length := qu
  clear h
  rw [if_neg h5] at hE
  unfold pqE at hE
  obtain ⟨f, hF⟩ : ∃ f, (fun i => if 200 < (pqG q i).xs.length then 1 else 0 : Nat → Int) = f := ⟨_, rfl⟩
  rw [hF] at hE
  refine G [10] ?_
  refine zac (fun m st => ∃ i : Nat, m + i = q.length ∧ (∀ j, j < i → f j = 0) ∧ st = St.of [(122, ql q.length 3 (q.flatMap PQ.pv)), (123, qd q.length), (124, qd i)] []) q.length ?_ ?_
  ·exact jbU
  rintro m st ⟨i, hi, hf, rfl⟩
  refine G [5] ?_
  refine cX ?_ ?_ <;> intro h
  ·exact jaC
  have hge : i = q.length := qu
  exact jcK
 | true =>
  rw [if_neg (show ¬ true = false by decide)] at hE
  refine G [15, 9, 0] ?_
  refine cX ?_ ?_ <;> intro h
  ·exact jde
  have h2 : nc.size = 16 := qu
  clear h
  rw [if_neg (show ¬ nc.size ≠ 16 by simp [h2])] at hE
  by_cases h3 : hexE nc ≠ 0
  ·exact jbL
  rw [if_neg h3] at hE
  replace h3 : hexE nc = 0 := qbk.1 h3
  obtain ⟨g1, g2⟩ := zcB h3
  rw [g1, g2] at hN
  clear g1 g2
  refine G [6] ?_
  refine cV hN ?_
  refine G [9, 1, 12, 2, 4, 2, 6, 2, 4, 2, 1, 9, 0] ?_
  refine cX ?_ ?_ <;> intro h
  ·exact jcr
  have h5 : ¬ (mine < 1 ∨ 4294967295 < mine ∨ hb < 0 ∨ hs < hb ∨ 1099511627776 < hs) := qu
  clear h
  rw [if_neg h5, if_neg (by simp)] at hE
  refine G [6] ?_
  refine cV hEn ?_
  refine G [16, 2, 1, 9, 0] ?_
  refine cX ?_ ?_ <;> intro h
  ·exact jci
  have h4 : ¬ (ep ≠ ⟨#[]⟩ ∧ e1 ≠ 0) := by
   intro ⟨h5, h6⟩
   simp [h5, h6] at h
  clear h
  rw [if_neg h4] at hE
  refine G [9, 9, 0] ?_
  refine cX ?_ ?_ <;> intro h
  ·exact jb6
  have h5 : ¬ 3 < q.length := qu
  clear h
  rw [if_neg h5] at hE
  unfold pqE at hE
  obtain ⟨f, hF⟩ : ∃ f, (fun i => if 200 < (pqG q i).xs.length then 1 else 0 : Nat → Int) = f := ⟨_, rfl⟩
  rw [hF] at hE
  refine G [10] ?_
  refine zac (fun m st => ∃ i : Nat, m + i = q.length ∧ (∀ j, j < i → f j = 0) ∧ st = St.of [(122, ql q.length 3 (q.flatMap PQ.pv)), (123, qd q.length), (124, qd i)] []) q.length ?_ ?_
  ·exact jbU
  rintro m st ⟨i, hi, hf, rfl⟩
  refine G [5] ?_
  refine cX ?_ ?_ <;> intro h
  ·exact jaC
  have hge : i = q.length := qu
  clear h
  subst hge
  rw [zcP hf] at hE
  subst hE
  refine jdI ?_
  exact yE
def PQ.OK (p : PQ) : Prop := p.xs.length ≤ 1048576 ∧ isB p.xs
def ST.B (s : ST) : Prop := s.q.length ≤ 1048576 ∧ ∀ p ∈ s.q, isB p.xs
theorem PQ.of_ty {n : Nat} {ps : List PV} (h : Ty prog (n + 5) 93 ps) (hb : PV.bdL 1048576 ps) : ∃ p : PQ, p.OK ∧ ps = p.pv := by
 obtain ⟨_, rfl, x0, _, rfl, t0, x1, _, rfl, t1, x2, _, rfl, t2, rfl⟩ := zbi (ts := [80, 80, 91]) qr h
 obtain ⟨a0, rfl, w0⟩ := zbz U80 t0
 obtain ⟨a1, rfl, w1⟩ := zbz U80 t1
 obtain ⟨xs, rfl, _, hB⟩ := ty_bytes U91 U5 qr t2
 simp only [qbZ, List.flatten_nil, qbA, qcs, qbG, qbK, PV.bdL, PV.bd, and_true] at hb
 exact ⟨⟨a0, a1, xs⟩, ⟨hb.2.2.1, hB⟩, rfl⟩
theorem ST.of_tyB {n : Nat} {ps : List PV} (h : Ty prog (n + 7) 60 ps) (hb : PV.bdL 1048576 ps) : ∃ s : ST, (s.OK ∧ s.B) ∧ ps = s.pv := by
 obtain ⟨_, rfl, x0, _, rfl, t0, x1, _, rfl, t1, x2, _, rfl, t2, x3, _, rfl, t3, x4, _, rfl, t4, rfl⟩ := zbi (ts := [9, 9, 55, 57, 58]) qr h
 obtain ⟨a0, rfl, _⟩ := zbD U9 t0
 obtain ⟨a1, rfl, _⟩ := zbD U9 t1
 obtain ⟨_, rfl, y0, _, rfl, u0, y1, _, rfl, u1, y2, _, rfl, u2, rfl⟩ := zbi (ts := [53, 53, 53]) qr t2
 obtain ⟨a, oa, rfl⟩ := KY.of_ty u0
 obtain ⟨b, ob, rfl⟩ := KY.of_ty u1
 obtain ⟨c, oc, rfl⟩ := KY.of_ty u2
 obtain ⟨x, _, _, _, rfl⟩ := HS.of_ty t3
 obtain ⟨L, rfl, h2, h3⟩ := zfr (sz := 3) U58 qr t4
 have hbq := zbs hb
 have hb1 := hbq [qg a1] qC
 have hb4 := hbq [.sl L.length 3 L.flatten] qC
 clear hb hbq
 simp only [PV.bdL, PV.bd, and_true] at hb1 hb4
 obtain ⟨l, k1, k2, k3⟩ := zgh (f := PQ.pv) (Q := PQ.OK) (L := L) fun x hx => by
  obtain ⟨s, h4, h5⟩ := PQ.of_ty (n := n) (h3 x hx).1 (zbs hb4.2 x hx)
  exact ⟨s, h4, h5⟩
 have hll : l.length ≤ 1048576 := by rw [k1]; exact hb4.1
 refine ⟨⟨a0, a1, a, b, c, x, l⟩, ⟨⟨?_, oa, ob, oc, hll, fun p hp => (k3 p hp).1⟩, hll, fun p hp => (k3 p hp).2⟩, ?_⟩
 ·show a1.size < _
  omega
 ·simp only [ST.pv, zho, k1, k2, qbZ, List.flatten_nil, qbA, qbB, qcs, qbG, qbK]
theorem ST.of_ty {n : Nat} {ps : List PV} (h : Ty prog (n + 7) 60 ps) (hb : PV.bdL 1048576 ps) : ∃ s : ST, s.OK ∧ ps = s.pv := by
 obtain ⟨s, h1, h2⟩ := ST.of_tyB h hb
 exact ⟨s, h1.1, h2⟩
theorem ST.list_tyB {n : Nat} {ps : List PV} (h : Ty prog (n + 8) 26 ps) (hb : PV.bdL 1048576 ps) : ∃ l : List ST, (∀ s ∈ l, s.OK ∧ s.B) ∧ l.length ≤ 1048576 ∧ ps = [.sl l.length 41 (l.flatMap ST.pv)] := by
 obtain ⟨L, rfl, h2, h3⟩ := zfr (sz := 41) U26 qr h
 simp only [PV.bdL, PV.bd, and_true] at hb
 obtain ⟨l, k1, k2, k3⟩ := zgh (f := ST.pv) (Q := fun s : ST => s.OK ∧ s.B) (L := L) fun x hx => by
  obtain ⟨s, h4, h5⟩ := ST.of_tyB (n := n) (h3 x hx).1 (zbs hb.2 x hx)
  exact ⟨s, h4, h5⟩
 exact jdl
theorem ST.list_ty {n : Nat} {ps : List PV} (h : Ty prog (n + 8) 26 ps) (hb : PV.bdL 1048576 ps) : ∃ l : List ST, (∀ s ∈ l, s.OK) ∧ l.length ≤ 1048576 ∧ ps = [.sl l.length 41 (l.flatMap ST.pv)] := by
 obtain ⟨l, h1, h2, h3⟩ := ST.list_tyB h hb
 exact ⟨l, fun s hs => (h1 s hs).1, h2, h3⟩
theorem same_s (n m : Nat) (xs ys : List Int) : Fn Tryz.prog 89 [.p (.sl n 1 (bs xs)), .p (.sl m 1 (bs ys))] (.p (.v (.bool (decide (strOfNums xs = strOfNums ys))))) [] := by
 refine zcr Tryz.func89 rfl (qbe rfl) fun w0 A => ?_
 refine zal (zaB qr ?_)
 (refine zaa (zaO (r := .p _)) rfl rfl ?_)
 refine zaf (zal (zaB qr ?_))
 (refine zaa (zaF (r := .p _)) rfl rfl ?_)
 (refine zab (a_b2s Tryz.underlying91 Tryz.underlying5 Tryz.underlying9 (zcF) rfl rfl) rfl rfl trivial ?_)
 (refine zaa (zaF (r := .p _)) rfl rfl ?_)
 (refine zab (a_b2s Tryz.underlying91 Tryz.underlying5 Tryz.underlying9 (zcF) rfl rfl) rfl rfl trivial ?_)
 (refine zaa a_seql rfl rfl ?_)
 (refine zaa (zaO (r := .p _)) rfl rfl ?_)
 refine zaf (zaA (⟨qO, _, (fun o => o), (.tmp _ _ _ _ rfl .nil), ?_, rfl, ?_, rfl⟩))
 ·exact rfl
 ·exact trivial
def PQ.cells (p : PQ) : List AV := [qe p.a, qe p.b, ql p.xs.length 1 (bs p.xs)]
noncomputable def pqB (x y : PQ) : Bool := ((x.a == y.a) && (x.b == y.b)) && decide (strOfNums x.xs = strOfNums y.xs)
theorem pqB_T {x y : PQ} (h : x = y) : pqB x y = true := by
 subst h
 unfold pqB
 simp
theorem pqB_F {x y : PQ} (hx : isB x.xs) (hy : isB y.xs) (h : x ≠ y) : pqB x y = false := by
 cases hq : pqB x y with
 | false => rfl
 | true =>
  exfalso
  obtain ⟨a, b, xs⟩ := x
  obtain ⟨c, d, ys⟩ := y
  unfold pqB at hq
  simp at hq
  obtain ⟨⟨h1, h2⟩, h3⟩ := hq
  have h4 := nums_inj hx hy h3
  dsimp only at h4
  exact h (by rw [h1, h2, h4])
theorem pql_d (x y : PQ) : Fn prog 57 [.agg x.cells, .agg y.cells] (qf (pqB x y)) [] := by
 obtain ⟨a1, b1, x1⟩ := x
 obtain ⟨a2, b2, x2⟩ := y
 have hS := same_s x1.length x2.length x1 x2
 show Fn prog _ [.agg [qe a1, qe b1, ql x1.length 1 (bs x1)], .agg [qe a2, qe b2, ql x2.length 1 (bs x2)]] (qf (((a1 == a2) && (b1 == b2)) && decide (strOfNums x1 = strOfNums x2))) _
 generalize x1.length = n1 at *
 generalize x2.length = n2 at *
 refine fnI fun w0 A => ?_
 refine G [19, 2, 5] ?_
 refine mb2 _ rfl rfl (fun _ => zbc func89 rfl rfl (hS) qw rfl) (fun _ => trivial) ?_
 exact jdb
theorem pqsl_d (l m : List PQ) (hl : l.length ≤ 4611686018427387904) (hm : m.length ≤ 4611686018427387904) (okl : ∀ p ∈ l, isB p.xs) (okm : ∀ p ∈ m, isB p.xs) : Fn prog 56 [ql l.length 3 (l.flatMap PQ.pv), ql m.length 3 (m.flatMap PQ.pv), .fn 57 []] (qf (eqB l m)) [] := by
 by_cases hlen : l.length = m.length
 rotate_left
 ·rw [zgz (fun e => hlen (by rw [e]))]
  generalize l.flatMap PQ.pv = L
  generalize m.flatMap PQ.pv = M
  exact ja1
 obtain ⟨E, hE⟩ : ∃ E, eqB l m = E := ⟨_, rfl⟩
 rw [hE]
 refine fnI fun w0 A => ?_
 refine G [11, 3, 11] ?_
 refine zac (fun u st => ∃ i : Nat, u + i = l.length ∧ (∀ j, j < i → l[j]? = m[j]?) ∧ st = St.of [(1, ql m.length 3 (m.flatMap PQ.pv)), (2, .fn 57 []), (15, ql l.length 3 (l.flatMap PQ.pv)), (16, qd l.length), (17, qd i)] []) l.length ?_ ?_
 ·exact jaG
 rintro u st ⟨i, hi, hf, rfl⟩
 refine G [5] ?_
 refine cX ?_ ?_ <;> intro h
 ·have hlt : i < l.length := qu
  clear h
  obtain ⟨x, hx⟩ := qo hlt
  obtain ⟨y, hy⟩ : ∃ y, m[i]? = some y := ⟨m[i]'qp, List.getElem?_eq_getElem qp⟩
  have hch := zaj (f := PQ.pv) (k := 3) (fun _ => rfl) hx
  have hle := zai (f := PQ.pv) (k := 3) (fun _ => rfl) hlt
  have hch2 := zaj (f := PQ.pv) (k := 3) (fun _ => rfl) hy
  have hle2 := zai (f := PQ.pv) (k := 3) (fun _ => rfl) (show i < m.length by omega)
  have hbad := zhr hx hy
  have hxy : x = y → l[i]? = m[i]? := fun e => by rw [hx, hy, e]
  have hxm := qbh hx
  have hym := qbh hy
  have hC := pql_d x y
  generalize l.flatMap PQ.pv = L at *
  generalize m.flatMap PQ.pv = M at *
  refine G [10] ?_
  refine jfc (zad (Y := .agg x.cells) sz93 rfl rfl (qbf rfl)) ?_
  refine G [8] ?_
  refine jfc (zad (Y := .agg y.cells) sz93 rfl rfl (qbf rfl)) ?_
  refine zaf ?_
  by_cases he : x = y
  ·rw [pqB_T he] at hC
   refine G [3] ?_
   refine jex ?_
   refine jey ?_
   exact jbA
  ·rw [zgz (hbad he)] at hE
   subst hE
   rw [pqB_F (okl x hxm) (okm y hym) he] at hC
   refine G [3] ?_
   refine jex ?_
   refine jey ?_
   exact jby
 have hge : i = l.length := qu
 clear h
 subst hge
 rw [zjb (zhs hlen hf)] at hE
 subst hE
 refine jdI ?_
 exact yE
def slV (s : ST) : List Value := s.a.vals ++ s.b.vals ++ s.c.vals
def HS.vals (h : HS) : List Value := [.bool h.lv, .int .i64 h.mine, .string h.nc, .int .i64 h.b, .int .i64 h.s]
noncomputable def stB (x y : ST) : Bool := (((decide (x.key = y.key) && decide (x.ep = y.ep)) && eqL (slV x) (slV y)) && eqL x.h.vals y.h.vals) && eqB x.q y.q
theorem stB_iff {x y : ST} : stB x y = true ↔ x = y := by
 obtain ⟨k, e, a, b, c, h, q⟩ := x
 obtain ⟨k', e', a', b', c', h', q'⟩ := y
 unfold stB
 simp only [qbv, decide_eq_true_eq, zaN, zgy]
 constructor
 ·rintro ⟨⟨⟨⟨h1, h2⟩, h3⟩, h4⟩, h5⟩
  obtain ⟨h6, h7⟩ := List.append_inj h3 rfl
  obtain ⟨h8, h9⟩ := List.append_inj h6 rfl
  have ea : a = a' := KY.eqL_iff.1 (zaN.2 h8)
  have eb : b = b' := KY.eqL_iff.1 (zaN.2 h9)
  have ec : c = c' := KY.eqL_iff.1 (zaN.2 h7)
  obtain ⟨v1, v2, v3, v4, v5⟩ := h
  obtain ⟨u1, u2, u3, u4, u5⟩ := h'
  simp [HS.vals] at h4
  obtain ⟨g1, g2, g3, g4, g5⟩ := h4
  rw [h1, h2, ea, eb, ec, h5, g1, g2, g3, g4, g5]
 ·intro h
  cases h
  exact ⟨⟨⟨⟨rfl, rfl⟩, rfl⟩, rfl⟩, rfl⟩
theorem stB_T {x y : ST} (h : x = y) : stB x y = true := stB_iff.2 h
theorem stB_F {x y : ST} (h : x ≠ y) : stB x y = false := by
 cases hq : stB x y with
 | false => rfl
 | true => exact absurd (stB_iff.1 hq) h
theorem stl_d (x y : ST) (hx : x.B) (hy : y.B) : Fn prog 55 [.agg x.cells, .agg y.cells] (qf (stB x y)) [] := by
 have hQ := pqsl_d x.q y.q (by have := hx.1; omega) (by have := hy.1; omega) hx.2 hy.2
 clear hx hy
 obtain ⟨k1, e1, a1, b1, c1, h1, q1⟩ := x
 obtain ⟨k2, e2, a2, b2, c2, h2, q2⟩ := y
 dsimp only at hQ
 show Fn prog _ [.agg (stC k1 e1 a1 b1 c1 h1 q1.length (q1.flatMap PQ.pv)), .agg (stC k2 e2 a2 b2 c2 h2 q2.length (q2.flatMap PQ.pv))] (qf ((((decide (k1 = k2) && decide (e1 = e2)) && eqL (a1.vals ++ b1.vals ++ c1.vals) (a2.vals ++ b2.vals ++ c2.vals)) && eqL h1.vals h2.vals) && eqB q1 q2)) _
 generalize eqB q1 q2 = bn at *
 generalize q1.flatMap PQ.pv = L1 at *
 generalize q2.flatMap PQ.pv = L2 at *
 generalize q1.length = n1 at *
 generalize q2.length = n2 at *
 refine fnI fun w0 A => ?_
 refine G [19, 2, 2] ?_
 refine mb2 _ rfl rfl (fun hb => (zao U55 rfl sz55 qv (show _ = zdK a1 b1 c1 from rfl))) (fun _ => ⟨rfl, trivial⟩) ?_
 refine mb2 _ rfl rfl (fun hb => (zar zhQ rfl)) (fun _ => trivial) ?_
 refine mb2 _ rfl rfl (fun hb => (zao U55 rfl sz55 qv (show _ = zdK a2 b2 c2 from rfl))) (fun _ => ⟨rfl, trivial⟩) ?_
 refine mb2 _ rfl rfl (fun hb => (zfm U55 rfl rfl qr qr qr)) (fun _ => trivial) ?_
 refine G [0, 2, 2] ?_
 refine mb2 _ rfl rfl (fun hb => (zao U57 rfl sz57 qv (show _ = h1.cells from rfl))) (fun _ => ⟨rfl, trivial⟩) ?_
 refine mb2 _ rfl rfl (fun hb => (zar fi60_3 rfl)) (fun _ => trivial) ?_
 refine mb2 _ rfl rfl (fun hb => (zao U57 rfl sz57 qv (show _ = h2.cells from rfl))) (fun _ => ⟨rfl, trivial⟩) ?_
 refine mb2 _ rfl rfl (fun hb => (zfm U57 rfl rfl qr qr qr)) (fun _ => trivial) ?_
 refine G [0, 2, 5] ?_
 refine mb2 _ rfl rfl (fun _ => zbc func56 rfl rfl (hQ) qw rfl) (fun _ => trivial) ?_
 exact jdb
theorem stsl_d (l m : List ST) (hl : l.length ≤ 4611686018427387904) (hm : m.length ≤ 4611686018427387904) (okl : ∀ s ∈ l, s.B) (okm : ∀ s ∈ m, s.B) : Fn prog 54 [ql l.length 41 (l.flatMap ST.pv), ql m.length 41 (m.flatMap ST.pv), .fn 55 []] (qf (eqB l m)) [] := by
 by_cases hlen : l.length = m.length
 rotate_left
 ·rw [zgz (fun e => hlen (by rw [e]))]
  generalize l.flatMap ST.pv = L
  generalize m.flatMap ST.pv = M
  exact ja1
 obtain ⟨E, hE⟩ : ∃ E, eqB l m = E := ⟨_, rfl⟩
 rw [hE]
 refine fnI fun w0 A => ?_
 refine G [11, 3, 11] ?_
 refine zac (fun u st => ∃ i : Nat, u + i = l.length ∧ (∀ j, j < i → l[j]? = m[j]?) ∧ st = St.of [(1, ql m.length 41 (m.flatMap ST.pv)), (2, .fn 55 []), (15, ql l.length 41 (l.flatMap ST.pv)), (16, qd l.length), (17, qd i)] []) l.length ?_ ?_
 ·exact jaG
 rintro u st ⟨i, hi, hf, rfl⟩
 refine G [5] ?_
 refine cX ?_ ?_ <;> intro h
 ·have hlt : i < l.length := qu
  clear h
  obtain ⟨x, hx⟩ := qo hlt
  obtain ⟨y, hy⟩ : ∃ y, m[i]? = some y := ⟨m[i]'qp, List.getElem?_eq_getElem qp⟩
  have hch := zaj (f := ST.pv) (k := 41) (fun _ => rfl) hx
  have hle := zai (f := ST.pv) (k := 41) (fun _ => rfl) hlt
  have hch2 := zaj (f := ST.pv) (k := 41) (fun _ => rfl) hy
  have hle2 := zai (f := ST.pv) (k := 41) (fun _ => rfl) (show i < m.length by omega)
  have hbad := zhr hx hy
  have hxy : x = y → l[i]? = m[i]? := fun e => by rw [hx, hy, e]
  have hxm := qbh hx
  have hym := qbh hy
  have hC := stl_d x y (okl x hxm) (okm y hym)
  generalize l.flatMap ST.pv = L at *
  generalize m.flatMap ST.pv = M at *
  refine G [10] ?_
  refine jfc (zad (Y := .agg x.cells) sz60 rfl rfl (qbf rfl)) ?_
  refine G [8] ?_
  refine jfc (zad (Y := .agg y.cells) sz60 rfl rfl (qbf rfl)) ?_
  refine zaf ?_
  by_cases he : x = y
  ·rw [stB_T he] at hC
   refine G [3] ?_
   refine jdO ?_
   refine jez ?_
   exact jbA
  ·rw [zgz (hbad he)] at hE
   subst hE
   rw [stB_F he] at hC
   refine G [3] ?_
   refine jdO ?_
   refine jez ?_
   exact jby
 have hge : i = l.length := qu
 clear h
 subst hge
 rw [zjb (zhs hlen hf)] at hE
 subst hE
 refine jdI ?_
 exact yE
theorem sameStates_d (l m : List ST) (hl : l.length ≤ 1048576) (hm : m.length ≤ 1048576) (okl : ∀ s ∈ l, s.B) (okm : ∀ s ∈ m, s.B) : Fn prog 26 [ql l.length 41 (l.flatMap ST.pv), ql m.length 41 (m.flatMap ST.pv)] (qf (eqB l m)) [] := by
 have hC := stsl_d l m qp qp okl okm
 clear hl hm okl okm
 generalize eqB l m = bn at *
 generalize l.flatMap ST.pv = L at *
 generalize l.length = N at *
 generalize m.flatMap ST.pv = L' at *
 generalize m.length = N' at *
 exact jcn
section
variable {P : Program} {d : Option Tmp} {ty : TypeId} {pos : String} {af : Array Edge} {g : Option (Nat × Bool)}
theorem zgE {xt yt : TypeId} {x y : Operand} {s t : ByteArray} {c : Bool} (h : leK s t = c) : AOp P ⟨d, .binOp .leq xt x y yt, ty, pos, af, g⟩ [qc s, qc t] [] [] (qf c) := by
 subst h
 exact a_sleq
end
theorem awp_joinS {P : Program} {w0 : World} {A : Ctx1} {nt : Nat} {c c2 d : Code} {Q : Exit → St → Prop} {st : St} (st1 : St) (h : awp ⟨P, w0, ctx0 A, nt⟩ c (Thn (awp ⟨P, w0, ctx0 A, nt⟩ c2 (Thn (fun st' => Re st' st1) Q)) (Thn (fun st' => Re st' st1) Q)) st) (k : awp ⟨P, w0, ctx0 A, nt⟩ d Q st1) :
 awp ⟨P, w0, ctx0 A, nt⟩ c (Thn (awp ⟨P, w0, ctx0 A, nt⟩ c2 (Thn (awp ⟨P, w0, ctx0 A, nt⟩ d Q) Q)) (Thn (awp ⟨P, w0, ctx0 A, nt⟩ d Q) Q)) st :=
 zjl h fun e st' he => by
  cases e with
  | normal => exact zdp st1 he k
  | _ => exact he
def idxN (n : NtP) : List NtP → Int
 | [] => -1
 | x :: xs => if n = x then 0 else if idxN n xs < 0 then -1 else idxN n xs + 1
theorem idxN_at {n : NtP} : ∀ {xs : List NtP} {k : Nat}, (hk : k < xs.length) → n = xs[k] → (∀ j, (hj : j < k) → n ≠ xs[j]) → idxN n xs = k
 | x :: xs, 0, _, h, _ => by
  have : n = x := qz
  simp [idxN, this]
 | x :: xs, k + 1, hk, h, hb => by
  have h0 : n ≠ x := by simpa using hb 0 qp
  have ih := idxN_at (xs := xs) (k := k) (by simpa using hk) qz (fun j hj => by simpa using hb (j + 1) qp)
  simp only [idxN, if_neg h0, ih]
  rw [if_neg (by omega)]
  omega
theorem idxN_none {n : NtP} : ∀ {xs : List NtP}, (∀ j, (hj : j < xs.length) → n ≠ xs[j]) → idxN n xs = -1
 | [], _ => rfl
 | x :: xs, hb => by
  have h0 : n ≠ x := hb 0 qC
  have ih := idxN_none (n := n) (xs := xs) (fun j hj => hb (j + 1) (by simpa using hj))
  simp [idxN, h0, ih]
theorem idxN_ge (n : NtP) : ∀ xs : List NtP, (0 ≤ idxN n xs ↔ n ∈ xs)
 | [] => by simp [idxN]
 | x :: xs => by
  have ih := idxN_ge n xs
  unfold idxN
  by_cases h : n = x
  ·rw [if_pos h]; simp [h]
  ·rw [if_neg h]
   by_cases h2 : idxN n xs < 0
   ·rw [if_pos h2]
    simp only [qbm, h, false_or]
    rw [← ih]; omega
   ·rw [if_neg h2]
    simp only [qbm, h, false_or]
    rw [← ih]; omega
theorem zdm (a b c d : Int) : eqL [.int .u32 a, .int .i64 b] [.int .u32 c, .int .i64 d] = decide ((a, b) = (c, d)) := by
 rw [qbX, zaN, decide_eq_true_eq]
 simp
theorem indexN_s (xs : List NtP) (a b : Int) (N : Nat) (hN : xs.length = N) (hm : N ≤ 100000) : Fn prog 103 [ql N 2 (xs.flatMap ntC), .agg [qe a, qd b]] (qd (idxN (a, b) xs)) [] := by
 refine fnI fun w0 A => ?_
 refine G [13] ?_
 refine zac (fun m st => ∃ k : Nat, m + k = N ∧ (∀ j, (hj : j < k) → (hj2 : j < xs.length) → (a, b) ≠ xs[j]) ∧ st = St.of [(0, ql N 2 (xs.flatMap ntC)), (3, .ref 3 0), (7, qd N), (8, qd k)] [(3, .box 82 [qe a, qd b])]) N ?_ ?_
 ·exact jdp
 rintro m st ⟨k, hk, hb, rfl⟩
 refine G [5] ?_
 refine cX ?_ ?_ <;> intro h
 ·have hlt : k < N := qu
  clear h
  have hq : xs[k]? = some (xs[k]'qp) := List.getElem?_eq_getElem qp
  have hch := zaj (f := ntC) (k := 2) (fun _ => rfl) hq
  have hle := zai (f := ntC) (k := 2) (fun _ => rfl) (show k < xs.length by omega)
  have hat := @idxN_at (a, b) xs k qp
  have hstep : (a, b) ≠ (xs[k]'qp) → ∀ j, (hj : j < k + 1) → (hj2 : j < xs.length) → (a, b) ≠ xs[j] := fun hne j hj hj2 => by
   by_cases e : j = k
   ·subst e; exact hne
   ·exact hb j qp hj2
  have hb' : ∀ j, (hj : j < k) → (a, b) ≠ (xs[j]'qp) := fun j hj => hb j hj qp
  generalize hx : (xs[k]'qp) = x at *
  obtain ⟨c, e⟩ := x
  generalize xs.flatMap ntC = L at *
  refine G [8] ?_
  by_cases hc : (a, b) = (c, e)
  ·rw [hat hc hb']
   refine G [7] ?_
   refine zaa (zbW U82 rfl rfl qr qr qr (c := true) (by rw [zdm]; exact decide_eq_true hc)) rfl rfl ?_
   exact jbh
  ·refine G [7] ?_
   refine zaa (zbW U82 rfl rfl qr qr qr (c := false) (by rw [zdm]; exact decide_eq_false hc)) rfl rfl ?_
   refine jdv ?_
   refine ⟨m - 1, qp, _, zae id _ _ ?_ ?_ rfl, k + 1, qp, hstep hc, rfl⟩
   ·exact jap
   ·exact ja3
 have hge : k = N := qu
 clear h
 rw [idxN_none fun j hj => hb j (by omega) hj]
 exact jaH
theorem containsN_s (xs : List NtP) (a b : Int) (N : Nat) (hN : xs.length = N) (hm : N ≤ 100000) : Fn prog 68 [ql N 2 (xs.flatMap ntC), .agg [qe a, qd b]] (qf (decide ((a, b) ∈ xs))) [] := by
 have hI := indexN_s xs a b N hN hm
 have hge := idxN_ge (a, b) xs
 have hB : decide ((a, b) ∈ xs) = decide (0 ≤ idxN (a, b) xs) := by simp only [hge]
 rw [hB]
 generalize idxN (a, b) xs = k at *
 refine fnI fun w0 A => ?_
 refine G [9] ?_
 refine cV hI ?_
 exact jdh
theorem nt_push (X : List NtP) (a b : Int) : X.flatMap ntC ++ [qi a, qh b] = (X ++ [(a, b)]).flatMap ntC := by
 rw [qbD]
 simp [ntC]
theorem zbu (c : CF) (ok : c.OK) : Fn prog 33 [.agg c.cells] (.p (.v (.int .i64 (cfE c)))) [] := by
 obtain ⟨key, port, l⟩ := c
 obtain ⟨hn, ok⟩ := ok
 dsimp only at hn ok
 obtain ⟨E, hE⟩ : ∃ E, cfE ⟨key, port, l⟩ = E := ⟨_, rfl⟩
 rw [hE]
 unfold cfE at hE
 dsimp only at hE
 have hK := zb2 key
 show Fn prog _ [.agg (cfC key port l.length (l.flatMap PE.pv))] _ _
 generalize keyE key = k1 at *
 refine fnI fun w0 A => ?_
 refine G [5] ?_
 by_cases hk : key ≠ ⟨#[]⟩ ∧ k1 ≠ 0
 ·rw [if_pos hk] at hE
  subst hE
  refine jdv ?_
  refine cX ?_ ?_ <;> intro h
  ·refine G [4] ?_
   refine cV hK ?_
   refine jdv ?_
   refine cX ?_ ?_ <;> intro h
   ·exact jaH
   ·exact absurd qz hk.2
  ·exact absurd qz hk.1
 rw [if_neg hk] at hE
 refine jdv ?_
 refine zdp (St.of [(1, .ref 1 0)] [(1, .box 24 (cfC key port l.length (l.flatMap PE.pv)))]) ?_ ?_
 ·skip
  refine cX ?_ ?_ <;> intro h
  ·refine G [4] ?_
   refine cV hK ?_
   refine jdv ?_
   refine cX ?_ ?_ <;> intro h
   ·exact absurd ⟨by simp_all, by simpa using h⟩ hk
   ·exact jcH
  ·exact jcH
 clear hk hK
 refine G [10, 2, 1, 9, 0] ?_
 refine cX ?_ ?_ <;> intro h
 ·have h5 : port < 0 ∨ 65535 < port := qz
  exact jcY
 have h5 : ¬ (port < 0 ∨ 65535 < port) := qu
 clear h
 rw [if_neg h5] at hE
 refine G [9, 9, 0] ?_
 refine cX ?_ ?_ <;> intro h
 ·exact jb7
 have h6 : ¬ 6 < l.length := qu
 clear h
 rw [if_neg h6] at hE
 refine jdD ?_
 refine zaK (zbF 4 100 82 2 rfl rfl) ?_
 refine G [9] ?_
 refine zac (fun m st => ∃ i : Nat, m + i = l.length ∧ (∀ j, j < i → zdV key l j = 0) ∧ st = St.of [(1, .ref 1 0), (4, .row 100), (32, ql l.length 5 (l.flatMap PE.pv)), (33, .p (.v (.int .i64 l.length))), (34, .p (.v (.int .i64 i)))] [(1, .box 24 (cfC key port l.length (l.flatMap PE.pv))), (100, .row 82 2 (zck l i).length ((zck l i).flatMap ntC))]) l.length ?_ ?_
 ·exact jaT
 rintro m st ⟨i, hi, hf, rfl⟩
 refine G [5] ?_
 refine cX ?_ ?_ <;> intro h
 ·have hlt : i < l.length := qu
  clear h
  obtain ⟨p, hp⟩ := qo hlt
  have hch := zaj (f := PE.pv) (k := 5) (fun _ => rfl) hp
  have hle := zai (f := PE.pv) (k := 5) (fun _ => rfl) hlt
  obtain ⟨hok, hpl⟩ := ok p (qbh hp)
  have hC := right_s p hok
  have hhit := @zca (zdV key l) i l.length hf hlt
  have hst : zdV key l i = if peE p ≠ 0 then peE p else if (0 < i ∧ leK p.key (peG l (i - 1)).key = true) ∨ p.key = key then 6 else if dupN (zck l i) p.nets = true then 6 else 0 := by unfold zdV; rw [zch hp]
  have hgood := @zcU p
  have hnx := zgn hp
  have hbl : (zck l i).length ≤ 8 * i := netsB_len (fun j hj => by
   have h0 := hf j hj
   unfold zdV at h0
   split at h0
   ·exact absurd h0 qaf
   ·rename_i h1
    exact (zcU (qbk.1 h1)).1) qp
  have hprev : ∀ j, i = j + 1 → (((l.flatMap PE.pv).drop (j * 5)).take 5 = (peG l j).pv) ∧ j * 5 + 5 ≤ (l.flatMap PE.pv).length := by
   intro j hj
   obtain ⟨r, hr⟩ : ∃ r, l[j]? = some r := ⟨l[j], List.getElem?_eq_getElem qp⟩
   rw [zch hr]
   exact ⟨zaj (f := PE.pv) (k := 5) (fun _ => rfl) hr, zai (f := PE.pv) (k := 5) (fun _ => rfl) qp⟩
  generalize hL : l.flatMap PE.pv = L at *
  generalize peE p = e at *
  refine G [10] ?_
  refine jej ?_
  refine G [4] ?_
  refine jeA ?_
  refine cK hC ?_
  refine jdv ?_
  refine cX ?_ ?_ <;> intro h
  ·exact jc3
  have h7 : e = 0 := qz
  clear h
  rw [if_neg (by simp [h7])] at hst
  obtain ⟨hn8, _⟩ := hgood h7
  --@rest
  have hcase : i = 0 ∨ ∃ j, i = j + 1 := by
   exact jcf
  by_cases hd : (0 < i ∧ leK p.key (peG l (i - 1)).key = true) ∨ p.key = key
  ·rw [if_pos hd] at hst
   rw [hhit (by rw [hst]; decide), hst] at hE
   subst hE
   rcases hcase with hi0 | ⟨j0, hij⟩
   ·have hkk : p.key = key := hd.resolve_left fun q => by omega
    refine G [5, 3, 17] ?_
    refine jeK ?_
    exact jbh
   ·obtain ⟨hpv, hple⟩ := hprev j0 hij
    have hpk : (L.drop (j0 * 5))[0]? = some (.v (.string (peG l j0).key)) := by
     have := congrArg (fun x => x[0]?) hpv
     exact jcD
    rw [show i - 1 = j0 by omega] at hd
    by_cases hlk : leK p.key (peG l j0).key = true
    ·refine G [5, 4, 7] ?_
     refine zaa (zaZ U22 sz48 qp qp (show _ = L.drop (j0 * 5) by congr 2; omega)) rfl rfl ?_
     refine jeU ?_
     refine jfb (zgE (c := true) (hlk)) ?_
     refine G [15, 9, 0] ?_
     exact yE
    ·have hkk : p.key = key := hd.resolve_left fun q => hlk q.2
     refine G [5, 4, 7] ?_
     refine zaa (zaZ U22 sz48 qp qp (show _ = L.drop (j0 * 5) by congr 2; omega)) rfl rfl ?_
     refine jeU ?_
     refine zaa (zgE (c := false) qa9) rfl rfl ?_
     refine G [6] ?_
     refine jeK ?_
     refine jdQ ?_
     exact yE
  rw [if_neg hd] at hst
  have hkk : ¬ p.key = key := fun e => hd (.inr e)
  refine G [3] ?_
  refine awp_joinS (St.of [(1, .ref 1 0), (4, .row 100), (6, .ref 6 0), (32, ql l.length 5 L), (33, .p (.v (.int .i64 l.length))), (34, .p (.v (.int .i64 i)))] [(1, .box 24 (cfC key port l.length L)), (6, .box 48 p.cells), (100, .row 82 2 (zck l i).length ((zck l i).flatMap ntC))]) ?_ ?_
  ·rcases hcase with hi0 | ⟨j0, hij⟩
   ·skip
    refine G [2, 3, 17] ?_
    refine jfb (zbp (c := false) (decide_eq_false hkk)) ?_
    refine G [4, 9, 0] ?_
    exact jaw
   ·obtain ⟨hpv, hple⟩ := hprev j0 hij
    have hpk : (L.drop (j0 * 5))[0]? = some (.v (.string (peG l j0).key)) := by
     have := congrArg (fun x => x[0]?) hpv
     exact jcD
    rw [show i - 1 = j0 by omega] at hd
    have hlk : ¬ leK p.key (peG l j0).key = true := fun e => hd (.inl ⟨qp, e⟩)
    skip
    refine G [2, 4, 7] ?_
    refine zaa (zaZ U22 sz48 qp qp (show _ = L.drop (j0 * 5) by congr 2; omega)) rfl rfl ?_
    refine jeU ?_
    refine zaa (zgE (c := false) qa9) rfl rfl ?_
    refine G [6] ?_
    refine jfb (zbp (c := false) (decide_eq_false hkk)) ?_
    refine G [4, 9, 0] ?_
    exact zae id _ _ qt qt rfl
  clear hd hprev hcase
  obtain ⟨DD, hDD⟩ : ∃ b, dupN (zck l i) p.nets = b := ⟨_, rfl⟩
  rw [hDD] at hst
  refine G [8] ?_
  refine zac (fun m' st => ∃ j : Nat, m' + j = p.nets.length ∧ ∃ X : List NtP, X.length = (zck l i).length + j ∧ DD = dupN X (p.nets.drop j) ∧ X = zck l i ++ p.nets.take j ∧ st = St.of [(1, .ref 1 0), (4, .row 100), (32, ql l.length 5 L), (33, .p (.v (.int .i64 l.length))), (34, .p (.v (.int .i64 i))), (66, ql p.nets.length 2 (p.nets.flatMap ntC)), (67, .p (.v (.int .i64 p.nets.length))), (68, .p (.v (.int .i64 j)))] [(1, .box 24 (cfC key port l.length L)), (100, .row 82 2 ((zck l i).length + j) (X.flatMap ntC))]) p.nets.length ?_ ?_
  ·refine ⟨_, zae id _ _ ?_ ?_ rfl, 0, qp, zck l i, qp, by rw [qch]; exact hDD.symm, qC, rfl⟩
   ·exact jap
   ·exact ja5
  rintro m' st ⟨j, hj, X, hX, hdp, hXe, rfl⟩
  refine G [5] ?_
  refine cX ?_ ?_ <;> intro h
  ·have hlj : j < p.nets.length := qu
   clear h
   obtain ⟨q, hq⟩ := qo hlj
   have hch2 := zaj (f := ntC) (k := 2) (fun _ => rfl) hq
   have hle2 := zai (f := ntC) (k := 2) (fun _ => rfl) hlj
   have hdr : p.nets.drop j = q :: p.nets.drop (j + 1) := by
    obtain ⟨q1, q2⟩ := qbl.1 hq
    rw [qbY q1, q2]
   have htk : p.nets.take (j + 1) = p.nets.take j ++ [q] := by
    obtain ⟨q1, q2⟩ := qbl.1 hq
    exact jdd
   rw [hdr, dupN] at hdp
   obtain ⟨qa, qb⟩ := q
   have hCt := containsN_s X qa qb ((zck l i).length + j) hX qp
   have hps := nt_push X qa qb
   have hxl : (X.flatMap ntC).length = ((zck l i).length + j) * 2 := by rw [zap (k := 2) (fun _ => rfl), hX]
   generalize hNL : p.nets.flatMap ntC = NL at *
   generalize hXF : X.flatMap ntC = XF at *
   refine je5 ?_
   by_cases hm : (qa, qb) ∈ X
   ·rw [show (decide ((qa, qb) ∈ X) || dupN (X ++ [(qa, qb)]) (p.nets.drop (j + 1))) = true by simp [hm]] at hdp
    rw [if_pos hdp] at hst
    rw [hhit (by rw [hst]; decide), hst] at hE
    subst hE
    rw [decide_eq_true hm] at hCt
    refine G [5] ?_
    refine cV hCt ?_
    refine G [6] ?_
    exact ja8
   ·rw [show (decide ((qa, qb) ∈ X) || dupN (X ++ [(qa, qb)]) (p.nets.drop (j + 1))) = dupN (X ++ [(qa, qb)]) (p.nets.drop (j + 1)) by simp [hm]] at hdp
    rw [decide_eq_false hm] at hCt
    refine G [5] ?_
    refine cV hCt ?_
    refine G [6] ?_
    refine jfc (zag 77 U46 sz82 zc82 (qbe rfl) (qbe rfl) rfl rfl rfl rfl (qbe rfl)) ?_
    refine zab (zaq 78 U46 eo82 (zaS) qB qp rfl rfl) rfl rfl ⟨rfl, rfl, rfl, trivial⟩ ?_
    refine jdI ?_
    refine ⟨m' - 1, qp, _, zae (fun o => bif Nat.beq o 100 then 78 else o) _ _ ?_ ?_ rfl, j + 1, qp, X ++ [(qa, qb)], by rw [qbg, hX]; rfl, hdp, by rw [htk, ← qbB, hXe], rfl⟩
    ·exact jap
    ·exact ⟨⟨rfl, rfl⟩, ⟨by rw [← hps]; rfl, rfl⟩, trivial⟩
  have hge : j = p.nets.length := qu
  clear h
  subst hge
  rw [qbI] at hXe
  have hz : dupN X (p.nets.drop p.nets.length) = false := by rw [List.drop_length]; rfl
  rw [hz] at hdp
  rw [if_neg (by rw [hdp]; decide)] at hst
  refine jdD ?_
  refine ⟨m - 1, qp, _, zae id _ _ ?_ ?_ rfl, i + 1, qp, fun q hq => ?_, rfl⟩
  ·exact jap
  ·refine ⟨⟨rfl, rfl⟩, ⟨?_, rfl⟩, trivial⟩
   rw [hnx, qbg, ← hXe]
   rfl
  ·exact jbX
 have hge : i = l.length := qu
 clear h
 subst hge
 rw [zcP hf] at hE
 subst hE
 refine jdI ?_
 exact yE
end Go.Proofs.YtlfjpippeeikdaaGreatDoor
