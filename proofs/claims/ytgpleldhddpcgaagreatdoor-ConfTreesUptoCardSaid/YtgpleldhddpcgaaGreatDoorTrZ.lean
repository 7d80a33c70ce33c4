/- Tries over lists of bits: what is a tree, the tree of a list of owned nets, putting, stripping, finding. Tries over lists of bits: putting, stripping, finding. -/
import Derived.Test.YtgpleldhddpcgaaGreatDoorMa4
/-! Tries over lists of bits: what is a tree, the tree of a list of owned nets, putting, stripping, finding. -/
namespace Go.Proofs.YtgpleldhddpcgaaGreatDoor
set_option linter.unusedVariables false
set_option linter.unusedSimpArgs false

abbrev Key := List Bool
abbrev Own := ByteArray
abbrev noOwn : ByteArray := ⟨#[]⟩
def bitAt (k : Key) (i : Nat) : Bool := k.getD i false

/-! prefixes -/
theorem pre_antisymm {a b : Key} (h : a <+: b) (k : b <+: a) : a = b := h.eq_of_length (Nat.le_antisymm h.length_le k.length_le)
theorem pre_total {a b c : Key} (h : a <+: c) (k : b <+: c) : a <+: b ∨ b <+: a := List.prefix_or_prefix_of_prefix h k
theorem pre_next {p k : Key} (h : p <+: k) (hne : k ≠ p) : p ++ [bitAt k p.length] <+: k := by
  obtain ⟨t, rfl⟩ := h
  cases t with
  | nil => simp at hne
  | cons b t =>
    refine ⟨t, ?_⟩
    simp [bitAt]
theorem pre_bit {p k : Key} {b : Bool} (h : p ++ [b] <+: k) : bitAt k p.length = b := by
  obtain ⟨t, rfl⟩ := h
  simp [bitAt]
theorem pre_of_snoc {p k : Key} {b : Bool} (h : p ++ [b] <+: k) : p <+: k := List.IsPrefix.trans (List.prefix_append _ _) h
theorem ne_of_snoc {p k : Key} {b : Bool} (h : p ++ [b] <+: k) : k ≠ p := fun e => by
  have := h.length_le
  rw [e] at this
  simp only [List.length_append, List.length_singleton] at this
  omega
/-- what begins two that part behind p is no longer than p -/
theorem pre_part {p z a b : Key} (ha : p ++ [false] <+: a) (hb : p ++ [true] <+: b) (h1 : z <+: a) (h2 : z <+: b) : z <+: p := by
  rcases pre_total h1 ha with h | h
  · rcases pre_total h2 hb with k | k
    · by_cases hl : z.length ≤ p.length
      · have := List.prefix_of_prefix_length_le h1 (pre_of_snoc ha) hl
        exact this
      · have e1 : z = p ++ [false] := h.eq_of_length (by have := h.length_le; simp at this ⊢; omega)
        have e2 : z = p ++ [true] := k.eq_of_length (by have := k.length_le; simp at this ⊢; omega)
        rw [e1] at e2; simp at e2
    · have := pre_bit (k.trans h1)
      rw [pre_bit ha] at this; cases this
  · have := pre_bit (h.trans h2)
    rw [pre_bit hb] at this; cases this

def lcpL : Key → Key → Key
  | a :: l, b :: r => if a = b then a :: lcpL l r else []
  | _, _ => []
theorem lcpL_left : ∀ l r : Key, lcpL l r <+: l
  | [], r => by cases r <;> simp [lcpL]
  | a :: l, [] => by simp [lcpL]
  | a :: l, b :: r => by
    simp only [lcpL]
    split
    · exact List.cons_prefix_cons.2 ⟨rfl, lcpL_left l r⟩
    · exact List.nil_prefix
theorem lcpL_right : ∀ l r : Key, lcpL l r <+: r
  | [], r => by cases r <;> simp [lcpL]
  | a :: l, [] => by simp [lcpL]
  | a :: l, b :: r => by
    simp only [lcpL]
    split
    · rename_i h; subst h; exact List.cons_prefix_cons.2 ⟨rfl, lcpL_right l r⟩
    · exact List.nil_prefix
theorem lcpL_max : ∀ {p l r : Key}, p <+: l → p <+: r → p <+: lcpL l r
  | [], l, r, _, _ => List.nil_prefix
  | x :: p, [], r, h, _ => by have := h.length_le; simp at this
  | x :: p, a :: l, [], _, h => by have := h.length_le; simp at this
  | x :: p, a :: l, b :: r, h, k => by
    obtain ⟨rfl, h'⟩ := List.cons_prefix_cons.1 h
    obtain ⟨rfl, k'⟩ := List.cons_prefix_cons.1 k
    simp only [lcpL, if_true]
    exact List.cons_prefix_cons.2 ⟨rfl, lcpL_max h' k'⟩
theorem lcpL_self (l : Key) : lcpL l l = l := pre_antisymm (lcpL_left l l) (lcpL_max (List.prefix_refl _) (List.prefix_refl _))

def joinK (p : Key) (l : List Key) : Key := l.foldl lcpL p
theorem joinK_left : ∀ (l : List Key) (p : Key), joinK p l <+: p
  | [], p => List.prefix_refl _
  | q :: l, p => (joinK_left l (lcpL p q)).trans (lcpL_left p q)
theorem joinK_mem : ∀ (l : List Key) (p : Key), ∀ q ∈ l, joinK p l <+: q
  | [], p, q, h => by cases h
  | x :: l, p, q, h => by
    rcases List.mem_cons.1 h with rfl | h
    · exact (joinK_left l (lcpL p q)).trans (lcpL_right p q)
    · exact joinK_mem l _ q h
theorem joinK_max : ∀ {l : List Key} {p x : Key}, x <+: p → (∀ q ∈ l, x <+: q) → x <+: joinK p l
  | [], p, x, h, _ => h
  | q :: l, p, x, h, k => joinK_max (l := l) (lcpL_max h (k q (by simp))) fun r hr => k r (by simp [hr])
def joinAll : List (Key × Own) → Key
  | [] => []
  | x :: l => joinK x.1 ((x :: l).map Prod.fst)
theorem joinAll_pre {l : List (Key × Own)} : ∀ x ∈ l, joinAll l <+: x.1 := by
  intro x hx
  cases l with
  | nil => cases hx
  | cons y l => exact joinK_mem _ _ _ (List.mem_map.2 ⟨x, hx, rfl⟩)
theorem joinAll_max {l : List (Key × Own)} {z : Key} (hne : l ≠ []) (h : ∀ x ∈ l, z <+: x.1) : z <+: joinAll l := by
  cases l with
  | nil => exact absurd rfl hne
  | cons y l =>
    refine joinK_max (h y (by simp)) fun q hq => ?_
    obtain ⟨x, hx, rfl⟩ := List.mem_map.1 hq
    exact h x hx

/-! trees -/
inductive TR where
  | nil
  | nd (p : Key) (o : Own) (l r : TR)
def TR.under (q : Key) : TR → Prop
  | .nil => True
  | .nd p _ _ _ => q <+: p
def TR.valid : TR → Prop
  | .nil => True
  | .nd p o l r => l.valid ∧ r.valid ∧ l.under (p ++ [false]) ∧ r.under (p ++ [true]) ∧ (o = noOwn → l ≠ .nil ∧ r ≠ .nil)
def ownP (p : Key) (o : Own) : List (Key × Own) := if o = noOwn then [] else [(p, o)]
def TR.pairs : TR → List (Key × Own)
  | .nil => []
  | .nd p o l r => ownP p o ++ (l.pairs ++ r.pairs)
abbrev Nd := Key × Own × Nat
def TR.nodes : TR → List Nd
  | .nil => []
  | .nd p o l r => (p, o, 1 + (l.nodes ++ r.nodes).length) :: (l.nodes ++ r.nodes)
theorem ownP_mem {p : Key} {o : Own} {x : Key × Own} (h : x ∈ ownP p o) : x = (p, o) ∧ o ≠ noOwn := by
  unfold ownP at h
  split at h
  · cases h
  · exact ⟨by simpa using h, by assumption⟩
theorem TR.pairs_own : ∀ {t : TR}, ∀ x ∈ t.pairs, x.2 ≠ noOwn
  | .nil, x, h => by cases h
  | .nd p o l r, x, h => by
    simp only [TR.pairs, List.mem_append] at h
    rcases h with h | h | h
    · obtain ⟨rfl, h'⟩ := ownP_mem h; exact h'
    · exact TR.pairs_own x h
    · exact TR.pairs_own x h
theorem TR.pairs_below : ∀ {t : TR} {q : Key}, t.valid → t.under q → ∀ x ∈ t.pairs, q <+: x.1
  | .nil, q, _, _, x, h => by cases h
  | .nd p o l r, q, hv, hb, x, h => by
    obtain ⟨h1, h2, h3, h4, h5⟩ := hv
    simp only [TR.pairs, List.mem_append] at h
    rcases h with h | h | h
    · obtain ⟨rfl, _⟩ := ownP_mem h; exact hb
    · exact List.IsPrefix.trans hb (pre_of_snoc (TR.pairs_below h1 h3 x h))
    · exact List.IsPrefix.trans hb (pre_of_snoc (TR.pairs_below h2 h4 x h))
theorem TR.pairs_ne : ∀ {t : TR}, t.valid → t ≠ .nil → ∃ x, x ∈ t.pairs
  | .nil, _, h => absurd rfl h
  | .nd p o l r, hv, _ => by
    obtain ⟨h1, h2, h3, h4, h5⟩ := hv
    by_cases ho : o = noOwn
    · obtain ⟨x, hx⟩ := TR.pairs_ne h1 (h5 ho).1
      exact ⟨x, by simp [TR.pairs, hx]⟩
    · exact ⟨(p, o), by simp [TR.pairs, ownP, ho]⟩
/-- what begins all that a tree has begins its root -/
theorem TR.root_max {p : Key} {o : Own} {l r : TR} {z : Key} (hv : (TR.nd p o l r).valid) (h : ∀ x ∈ (TR.nd p o l r).pairs, z <+: x.1) : z <+: p := by
  obtain ⟨h1, h2, h3, h4, h5⟩ := hv
  by_cases ho : o = noOwn
  · obtain ⟨x, hx⟩ := TR.pairs_ne h1 (h5 ho).1
    obtain ⟨y, hy⟩ := TR.pairs_ne h2 (h5 ho).2
    exact pre_part (TR.pairs_below h1 h3 x hx) (TR.pairs_below h2 h4 y hy) (h x (by simp [TR.pairs, hx])) (h y (by simp [TR.pairs, hy]))
  · exact h (p, o) (by simp [TR.pairs, ownP, ho])
theorem TR.root_pre {p : Key} {o : Own} {l r : TR} (hv : (TR.nd p o l r).valid) : ∀ x ∈ (TR.nd p o l r).pairs, p <+: x.1 := TR.pairs_below hv (List.prefix_refl _)

/-! the tree of owned nets -/
def rootOwn (top : Key) (l : List (Key × Own)) : Own := l.foldl (fun o x => if x.1 = top then x.2 else o) noOwn
theorem rootOwn_of {top : Key} {o : Own} : ∀ (l : List (Key × Own)) (a : Own), (∀ x ∈ l, x.1 = top → x.2 = o) → (a = o ∨ ∃ x ∈ l, x.1 = top) → l.foldl (fun o x => if x.1 = top then x.2 else o) a = o
  | [], a, _, h => by
    rcases h with h | ⟨x, hx, _⟩
    · exact h
    · cases hx
  | y :: l, a, h, k => by
    rw [List.foldl_cons]
    refine rootOwn_of l _ (fun x hx => h x (by simp [hx])) ?_
    by_cases hy : y.1 = top
    · rw [if_pos hy]; exact .inl (h y (by simp) hy)
    · rw [if_neg hy]
      rcases k with k | ⟨x, hx, hxt⟩
      · exact .inl k
      · rcases List.mem_cons.1 hx with rfl | hx
        · exact absurd hxt hy
        · exact .inr ⟨x, hx, hxt⟩
theorem rootOwn_none {top : Key} : ∀ (l : List (Key × Own)) (a : Own), (∀ x ∈ l, x.1 ≠ top) → l.foldl (fun o x => if x.1 = top then x.2 else o) a = a
  | [], a, _ => rfl
  | y :: l, a, h => by
    rw [List.foldl_cons, if_neg (h y (by simp))]
    exact rootOwn_none l a fun x hx => h x (by simp [hx])
def sideL (top : Key) (b : Bool) (l : List (Key × Own)) : List (Key × Own) := l.filter fun x => !decide (x.1 = top) && (bitAt x.1 top.length == b)
theorem sideL_mem {top : Key} {b : Bool} {l : List (Key × Own)} {x : Key × Own} : x ∈ sideL top b l ↔ x ∈ l ∧ x.1 ≠ top ∧ bitAt x.1 top.length = b := by
  simp [sideL, List.mem_filter]
def grownF : Nat → List (Key × Own) → List Nd
  | _, [] => []
  | 0, _ :: _ => []
  | n + 1, x :: l =>
    (joinAll (x :: l), rootOwn (joinAll (x :: l)) (x :: l), 1 + (grownF n (sideL (joinAll (x :: l)) false (x :: l)) ++ grownF n (sideL (joinAll (x :: l)) true (x :: l))).length) ::
      (grownF n (sideL (joinAll (x :: l)) false (x :: l)) ++ grownF n (sideL (joinAll (x :: l)) true (x :: l)))

theorem TR.join_root {p : Key} {o : Own} {l r : TR} (hv : (TR.nd p o l r).valid) {L : List (Key × Own)} (hp : L.Perm (TR.nd p o l r).pairs) : joinAll L = p := by
  have hne : L ≠ [] := by
    obtain ⟨x, hx⟩ := TR.pairs_ne hv (by simp)
    intro e; subst e
    exact absurd (hp.mem_iff.2 hx) (by simp)
  refine pre_antisymm (TR.root_max hv fun x hx => joinAll_pre x (hp.mem_iff.2 hx)) (joinAll_max hne fun x hx => TR.root_pre hv x (hp.mem_iff.1 hx))
theorem TR.own_root {p : Key} {o : Own} {l r : TR} (hv : (TR.nd p o l r).valid) {L : List (Key × Own)} (hp : L.Perm (TR.nd p o l r).pairs) : rootOwn p L = o := by
  obtain ⟨h1, h2, h3, h4, h5⟩ := hv
  have key : ∀ x ∈ L, x.1 = p → x.2 = o := fun x hx e => by
    have := hp.mem_iff.1 hx
    simp only [TR.pairs, List.mem_append] at this
    rcases this with h | h | h
    · obtain ⟨rfl, _⟩ := ownP_mem h; rfl
    · exact absurd e (ne_of_snoc (TR.pairs_below h1 h3 x h))
    · exact absurd e (ne_of_snoc (TR.pairs_below h2 h4 x h))
  by_cases ho : o = noOwn
  · exact rootOwn_of L _ key (.inl ho.symm)
  · exact rootOwn_of L _ key (.inr ⟨(p, o), hp.mem_iff.2 (by simp [TR.pairs, ownP, ho]), rfl⟩)
theorem sideL_pairs {p : Key} {o : Own} {l r : TR} (hv : (TR.nd p o l r).valid) : sideL p false (TR.nd p o l r).pairs = l.pairs ∧ sideL p true (TR.nd p o l r).pairs = r.pairs := by
  obtain ⟨h1, h2, h3, h4, h5⟩ := hv
  have e0 : ∀ b, sideL p b (ownP p o) = [] := fun b => by
    unfold sideL ownP
    split <;> simp
  have full : ∀ (t : TR) (b : Bool), t.valid → t.under (p ++ [b]) → sideL p b t.pairs = t.pairs := fun t b hv hb => by
    refine List.filter_eq_self.2 fun x hx => ?_
    have := TR.pairs_below hv hb x hx
    simp [ne_of_snoc this, pre_bit this]
  have none : ∀ (t : TR) (b : Bool), t.valid → t.under (p ++ [b]) → sideL p (!b) t.pairs = [] := fun t b hv hb => by
    refine List.filter_eq_nil_iff.2 fun x hx => ?_
    have := TR.pairs_below hv hb x hx
    simp [pre_bit this]
  have app : ∀ b (x y : List (Key × Own)), sideL p b (x ++ y) = sideL p b x ++ sideL p b y := fun b x y => List.filter_append ..
  constructor
  · rw [TR.pairs, app, app, e0, full l false h1 h3, show sideL p false r.pairs = [] from none r true h2 h4]; simp
  · rw [TR.pairs, app, app, e0, full r true h2 h4, show sideL p true l.pairs = [] from none l false h1 h3]; simp
theorem TR.nodes_len : ∀ t : TR, t.pairs.length ≤ t.nodes.length
  | .nil => Nat.le_refl _
  | .nd p o l r => by
    have := TR.nodes_len l
    have := TR.nodes_len r
    have : (ownP p o).length ≤ 1 := by unfold ownP; split <;> simp
    simp only [TR.pairs, TR.nodes, List.length_append, List.length_cons]; omega
/-- a list of what a tree has grows to the tree -/
theorem grownF_tree : ∀ {t : TR} {L : List (Key × Own)} {n : Nat}, t.valid → L.Perm t.pairs → L.length ≤ n → grownF n L = t.nodes
  | .nil, L, n, _, hp, _ => by
    obtain rfl : L = [] := List.Perm.eq_nil hp
    cases n <;> rfl
  | .nd p o l r, L, n, hv, hp, hn => by
    have hj := TR.join_root hv hp
    have ho := TR.own_root hv hp
    have hs := sideL_pairs hv
    have p1 : (sideL p false L).Perm l.pairs := by rw [← hs.1]; exact hp.filter _
    have p2 : (sideL p true L).Perm r.pairs := by rw [← hs.2]; exact hp.filter _
    have hlen := hp.length_eq
    match L, n, hn with
    | [], _, _ =>
      obtain ⟨x, hx⟩ := TR.pairs_ne hv (by simp)
      exact absurd (hp.mem_iff.2 hx) (by simp)
    | x :: L, 0, hn => simp at hn
    | x :: L, n + 1, hn =>
      have hlp := p1.length_eq
      have hrp := p2.length_eq
      have hlt : l.pairs.length + r.pairs.length ≤ n + 1 := by
        simp only [TR.pairs, List.length_append] at hlen; simp only [List.length_cons] at hn hlen; omega
      have hl1 : (sideL p false (x :: L)).length ≤ n ∧ (sideL p true (x :: L)).length ≤ n := by
        rw [hlp, hrp]
        obtain ⟨h1, h2, h3, h4, h5⟩ := hv
        by_cases hoo : o = noOwn
        · obtain ⟨y, hy⟩ := TR.pairs_ne h1 (h5 hoo).1
          obtain ⟨z, hz⟩ := TR.pairs_ne h2 (h5 hoo).2
          have := List.length_pos_of_mem hy
          have := List.length_pos_of_mem hz
          omega
        · have : (ownP p o).length = 1 := by unfold ownP; rw [if_neg hoo]; rfl
          simp only [TR.pairs, List.length_append] at hlen; simp only [List.length_cons] at hn hlen
          omega
      rw [grownF, hj, ho, grownF_tree hv.1 p1 hl1.1, grownF_tree hv.2.1 p2 hl1.2]
      rfl
theorem fst_inj : ∀ {l : List (Key × Own)}, (l.map Prod.fst).Nodup → ∀ a ∈ l, ∀ b ∈ l, a.1 = b.1 → a = b
  | [], _, a, ha, _, _, _ => by cases ha
  | x :: l, h, a, ha, b, hb, e => by
    rw [List.map_cons, List.nodup_cons] at h
    rcases List.mem_cons.1 ha with ha | ha <;> rcases List.mem_cons.1 hb with hb | hb
    · rw [ha, hb]
    · exact absurd (List.mem_map.2 ⟨b, hb, by rw [← e, ha]⟩) h.1
    · exact absurd (List.mem_map.2 ⟨a, ha, by rw [e, hb]⟩) h.1
    · exact fst_inj h.2 a ha b hb e
theorem fst_nodup : ∀ {l : List (Key × Own)}, (l.map Prod.fst).Nodup → l.Nodup
  | [], _ => List.nodup_nil
  | x :: l, h => by
    rw [List.map_cons, List.nodup_cons] at h
    exact List.nodup_cons.2 ⟨fun hx => h.1 (List.mem_map.2 ⟨x, hx, rfl⟩), fst_nodup h.2⟩
/-- any owned nets, each there once, make a tree -/
theorem tree_of : ∀ (n : Nat) (L : List (Key × Own)), L.length ≤ n → (L.map Prod.fst).Nodup → (∀ x ∈ L, x.2 ≠ noOwn) → ∃ t : TR, t.valid ∧ L.Perm t.pairs
  | _, [], _, _, _ => ⟨.nil, trivial, List.Perm.refl _⟩
  | 0, _ :: _, h, _, _ => by simp at h
  | n + 1, y :: L, hn, hd, ho => by
    obtain ⟨M, hM⟩ : ∃ M, M = y :: L := ⟨_, rfl⟩
    rw [← hM] at hn hd ho ⊢
    have hMne : M ≠ [] := by rw [hM]; simp
    obtain ⟨top, htop⟩ : ∃ top, top = joinAll M := ⟨_, rfl⟩
    have hpre : ∀ x ∈ M, top <+: x.1 := fun x hx => by rw [htop]; exact joinAll_pre x hx
    have hside : ∀ b, ∀ x ∈ sideL top b M, top ++ [b] <+: x.1 := fun b x hx => by
      obtain ⟨h1, h2, h3⟩ := sideL_mem.1 hx
      rw [← h3]; exact pre_next (hpre x h1) h2
    have hlen : (M.filter fun x => decide (x.1 = top)).length + ((sideL top false M).length + (sideL top true M).length) = M.length := by
      have h1 := (List.filter_append_perm (fun x : Key × Own => decide (x.1 = top)) M).length_eq
      have h2 := (List.filter_append_perm (fun x : Key × Own => bitAt x.1 top.length == false) (M.filter fun x => !decide (x.1 = top))).length_eq
      rw [List.filter_filter, List.filter_filter] at h2
      rw [List.length_append] at h1 h2
      have e1 : (M.filter fun x => (bitAt x.1 top.length == false) && !decide (x.1 = top)) = sideL top false M := by unfold sideL; congr 1; funext x; rw [Bool.and_comm]
      have e2 : (M.filter fun x => (!(bitAt x.1 top.length == false)) && !decide (x.1 = top)) = sideL top true M := by
        unfold sideL; congr 1; funext x; rw [Bool.and_comm]; cases bitAt x.1 top.length <;> rfl
      rw [e1, e2] at h2
      omega
    have hlt : ∀ b, (sideL top b M).length < M.length := by
      intro b
      have hle : ∀ b, (sideL top b M).length ≤ M.length := fun b => List.length_filter_le _ _
      rcases Nat.lt_or_ge (sideL top b M).length M.length with h | h
      · exact h
      · exfalso
        have e : sideL top b M = M := by
          have := List.filter_sublist (p := fun x : Key × Own => !decide (x.1 = top) && (bitAt x.1 top.length == b)) (l := M)
          exact this.eq_of_length (Nat.le_antisymm (hle b) h)
        have hm : top ++ [b] <+: top := by
          conv => rhs; rw [htop]
          exact joinAll_max hMne fun x hx => hside b x (by rw [e]; exact hx)
        have := hm.length_le
        simp only [List.length_append, List.length_singleton] at this
        omega
    have hsub : ∀ b, ((sideL top b M).map Prod.fst).Nodup := fun b => hd.sublist (List.filter_sublist.map _)
    obtain ⟨tl, v1, p1⟩ := tree_of n (sideL top false M) (by have := hlt false; omega) (hsub false) fun x hx => ho x (sideL_mem.1 hx).1
    obtain ⟨tr, v2, p2⟩ := tree_of n (sideL top true M) (by have := hlt true; omega) (hsub true) fun x hx => ho x (sideL_mem.1 hx).1
    have hbel : ∀ (t : TR) (b : Bool), t.valid → (sideL top b M).Perm t.pairs → t.under (top ++ [b]) := fun t b hv hp => by
      cases t with
      | nil => trivial
      | nd q o l r => exact TR.root_max hv fun x hx => hside b x (hp.mem_iff.2 hx)
    have hnil : ∀ (t : TR) (b : Bool), t.valid → (sideL top b M).Perm t.pairs → t = .nil → sideL top b M = [] := fun t b hv hp e => by
      subst e; exact List.Perm.eq_nil hp
    obtain ⟨o, hoo, hperm⟩ : ∃ o : Own, (o = noOwn → ∀ x ∈ M, x.1 ≠ top) ∧ (M.filter fun x : Key × Own => decide (x.1 = top)).Perm (ownP top o) := by
      by_cases hx : ∃ x ∈ M, x.1 = top
      · obtain ⟨x, hxM, hxt⟩ := hx
        refine ⟨x.2, fun h => absurd h (ho x hxM), ?_⟩
        have e : (M.filter fun x => decide (x.1 = top)) = [x] := by
          have hall : ∀ z ∈ M.filter (fun x => decide (x.1 = top)), z = x := fun z hz => by
            obtain ⟨h1, h2⟩ := List.mem_filter.1 hz
            have h2 : z.1 = top := by simpa using h2
            exact fst_inj hd z h1 x hxM (by rw [h2, hxt])
          have hnd : (M.filter fun x => decide (x.1 = top)).Nodup := (fst_nodup hd).sublist List.filter_sublist
          match hq : M.filter (fun x => decide (x.1 = top)) with
          | [] =>
            have hm : x ∈ M.filter (fun x => decide (x.1 = top)) := List.mem_filter.2 ⟨hxM, by simpa using hxt⟩
            rw [hq] at hm; cases hm
          | [a] =>
            have ea := hall a (by rw [hq]; simp)
            rw [hq, ea]
          | a :: b :: c =>
            rw [hq] at hnd hall
            have ea := hall a (by simp)
            have eb := hall b (by simp)
            subst ea; subst eb
            simp at hnd
        rw [e]
        obtain ⟨x1, x2⟩ := x
        simp only at hxt
        subst hxt
        unfold ownP
        rw [if_neg (ho _ hxM)]
      · refine ⟨noOwn, fun _ x hxM e => hx ⟨x, hxM, e⟩, ?_⟩
        have e : (M.filter fun x => decide (x.1 = top)) = [] := List.filter_eq_nil_iff.2 fun x hxM => by simp; intro e; exact hx ⟨x, hxM, e⟩
        rw [e]; unfold ownP; rw [if_pos rfl]
    refine ⟨.nd top o tl tr, ⟨v1, v2, hbel tl false v1 p1, hbel tr true v2 p2, fun h0 => ?_⟩, ?_⟩
    · have hno := hoo h0
      have hall : ∀ b, sideL top b M = [] → ∀ x ∈ M, top ++ [!b] <+: x.1 := fun b hb x hx => by
        have h1 := pre_next (hpre x hx) (hno x hx)
        have h2 : bitAt x.1 top.length = !b := by
          cases hq : bitAt x.1 top.length <;> cases b <;> try rfl
          · have : x ∈ sideL top false M := sideL_mem.2 ⟨hx, hno x hx, hq⟩
            rw [hb] at this; cases this
          · have : x ∈ sideL top true M := sideL_mem.2 ⟨hx, hno x hx, hq⟩
            rw [hb] at this; cases this
        rw [h2] at h1; exact h1
      have hcon : ∀ b, sideL top b M ≠ [] := fun b hb => by
        have hm : top ++ [!b] <+: top := by
          conv => rhs; rw [htop]
          exact joinAll_max hMne (hall b hb)
        have := hm.length_le
        simp only [List.length_append, List.length_singleton] at this
        omega
      exact ⟨fun e => hcon false (hnil tl false v1 p1 e), fun e => hcon true (hnil tr true v2 p2 e)⟩
    · have hsplit : M.Perm ((M.filter fun x => decide (x.1 = top)) ++ (sideL top false M ++ sideL top true M)) := by
        refine (List.filter_append_perm (fun x => decide (x.1 = top)) M).symm.trans (List.Perm.append_left _ ?_)
        have e2 := (List.filter_append_perm (fun x => bitAt x.1 top.length == false) (M.filter fun x => !decide (x.1 = top))).symm
        rw [List.filter_filter, List.filter_filter] at e2
        have e3 : (M.filter fun x => (bitAt x.1 top.length == false) && !decide (x.1 = top)) = sideL top false M := by unfold sideL; congr 1; funext x; rw [Bool.and_comm]
        have e4 : (M.filter fun x => (!(bitAt x.1 top.length == false)) && !decide (x.1 = top)) = sideL top true M := by
          unfold sideL; congr 1; funext x; rw [Bool.and_comm]; cases bitAt x.1 top.length <;> rfl
        rw [e3, e4] at e2
        exact e2
      exact hsplit.trans (hperm.append (p1.append p2))
end Go.Proofs.YtgpleldhddpcgaaGreatDoor
/-! Tries over lists of bits: putting, stripping, finding. -/
namespace Go.Proofs.YtgpleldhddpcgaaGreatDoor
set_option linter.unusedVariables false
set_option linter.unusedSimpArgs false

/-! putting -/
def TR.put : TR → Key → Own → TR
  | .nil, n, o => .nd n o .nil .nil
  | .nd p q l r, n, o =>
    if p = n then .nd n o l r
    else if p <+: n then (if bitAt n p.length = true then .nd p q l (r.put n o) else .nd p q (l.put n o) r)
    else if n <+: p then (if bitAt p n.length = true then .nd n o .nil (.nd p q l r) else .nd n o (.nd p q l r) .nil)
    else (if bitAt n (lcpL p n).length = true then .nd (lcpL p n) noOwn (.nd p q l r) (.nd n o .nil .nil) else .nd (lcpL p n) noOwn (.nd n o .nil .nil) (.nd p q l r))
theorem TR.put_ne : ∀ (t : TR) (n : Key) (o : Own), t.put n o ≠ .nil
  | .nil, n, o => by simp [TR.put]
  | .nd p q l r, n, o => by
    rw [TR.put]
    split
    · simp
    · split
      · split <;> simp
      · split
        · split <;> simp
        · split <;> simp
theorem fork_bits {p n : Key} (h1 : ¬ p <+: n) (h2 : ¬ n <+: p) : lcpL p n ++ [bitAt p (lcpL p n).length] <+: p ∧ lcpL p n ++ [bitAt n (lcpL p n).length] <+: n ∧ bitAt p (lcpL p n).length = !bitAt n (lcpL p n).length := by
  have a1 := pre_next (lcpL_left p n) (fun e => h1 (by have h := lcpL_right p n; rw [← e] at h; exact h))
  have a2 := pre_next (lcpL_right p n) (fun e => h2 (by have h := lcpL_left p n; rw [← e] at h; exact h))
  refine ⟨a1, a2, ?_⟩
  cases hb : bitAt p (lcpL p n).length <;> cases hc : bitAt n (lcpL p n).length <;> try rfl
  all_goals
    exfalso
    rw [hb] at a1
    rw [hc] at a2
    have := (lcpL_max a1 a2).length_le
    simp only [List.length_append, List.length_singleton] at this
    omega
theorem TR.put_valid : ∀ {t : TR} {n : Key} {o : Own}, t.valid → o ≠ noOwn → (t.put n o).valid ∧ ∀ q, t.under q → q <+: n → (t.put n o).under q
  | .nil, n, o, _, ho => ⟨⟨trivial, trivial, trivial, trivial, fun e => absurd e ho⟩, fun q _ h => h⟩
  | .nd p q l r, n, o, hv, ho => by
    have hv' := hv
    obtain ⟨h1, h2, h3, h4, h5⟩ := hv
    rw [TR.put]
    split
    · rename_i e; subst e
      exact ⟨⟨h1, h2, h3, h4, fun e => absurd e ho⟩, fun z hz _ => hz⟩
    · rename_i hne
      split
      · rename_i hpn
        have hx := pre_next hpn (fun e => hne e.symm)
        split
        · rename_i hb
          rw [hb] at hx
          obtain ⟨k1, k2⟩ := TR.put_valid (n := n) h2 ho
          exact ⟨⟨h1, k1, h3, k2 _ h4 hx, fun e => ⟨(h5 e).1, TR.put_ne _ _ _⟩⟩, fun z hz _ => hz⟩
        · rename_i hb
          have hb' : bitAt n p.length = false := by simpa using hb
          rw [hb'] at hx
          obtain ⟨k1, k2⟩ := TR.put_valid (n := n) h1 ho
          exact ⟨⟨k1, h2, k2 _ h3 hx, h4, fun e => ⟨TR.put_ne _ _ _, (h5 e).2⟩⟩, fun z hz _ => hz⟩
      · rename_i hpn
        split
        · rename_i hnp
          have hx := pre_next hnp (fun e => hne e)
          split
          · rename_i hb
            rw [hb] at hx
            exact ⟨⟨trivial, hv', trivial, hx, fun e => absurd e ho⟩, fun z hz hzn => hzn⟩
          · rename_i hb
            have hb' : bitAt p n.length = false := by simpa using hb
            rw [hb'] at hx
            exact ⟨⟨hv', trivial, hx, trivial, fun e => absurd e ho⟩, fun z hz hzn => hzn⟩
        · rename_i hnp
          obtain ⟨f1, f2, f3⟩ := fork_bits hpn hnp
          have leaf : (TR.nd n o .nil .nil).valid := ⟨trivial, trivial, trivial, trivial, fun e => absurd e ho⟩
          split
          · rename_i hb
            rw [hb] at f2 f3
            rw [f3] at f1
            exact ⟨⟨hv', leaf, f1, f2, fun _ => ⟨by simp, by simp⟩⟩, fun z hz hzn => lcpL_max hz hzn⟩
          · rename_i hb
            have hb' : bitAt n (lcpL p n).length = false := by simpa using hb
            rw [hb'] at f2 f3
            rw [f3] at f1
            exact ⟨⟨leaf, hv', f2, f1, fun _ => ⟨by simp, by simp⟩⟩, fun z hz hzn => lcpL_max hz hzn⟩
def notK (n : Key) (l : List (Key × Own)) : List (Key × Own) := l.filter fun x => !decide (x.1 = n)
theorem notK_app (n : Key) (a b : List (Key × Own)) : notK n (a ++ b) = notK n a ++ notK n b := List.filter_append ..
theorem notK_all {n : Key} {l : List (Key × Own)} (h : ∀ x ∈ l, x.1 ≠ n) : notK n l = l := List.filter_eq_self.2 fun x hx => by simp [h x hx]
theorem ownP_ne {p : Key} {o : Own} (h : o ≠ noOwn) : ownP p o = [(p, o)] := by unfold ownP; rw [if_neg h]
theorem ownP_no (p : Key) : ownP p noOwn = [] := by unfold ownP; rw [if_pos rfl]
theorem TR.put_pairs : ∀ {t : TR} {n : Key} {o : Own}, t.valid → o ≠ noOwn → (t.put n o).pairs.Perm ((n, o) :: notK n t.pairs)
  | .nil, n, o, _, ho => by simp [TR.put, TR.pairs, ownP_ne ho, notK]
  | .nd p q l r, n, o, hv, ho => by
    have hroot := TR.root_pre hv
    obtain ⟨h1, h2, h3, h4, h5⟩ := hv
    have bl : ∀ x ∈ l.pairs, p ++ [false] <+: x.1 := TR.pairs_below h1 h3
    have br : ∀ x ∈ r.pairs, p ++ [true] <+: x.1 := TR.pairs_below h2 h4
    rw [TR.put]
    split
    · rename_i e; subst e
      have e1 : notK p (ownP p q) = [] := by unfold notK ownP; split <;> simp
      rw [TR.pairs, TR.pairs, notK_app, notK_app, e1, notK_all fun x hx => ne_of_snoc (bl x hx), notK_all fun x hx => ne_of_snoc (br x hx), ownP_ne ho]
      exact List.Perm.refl _
    · rename_i hne
      have e0 : notK n (ownP p q) = ownP p q := notK_all fun x hx => by obtain ⟨rfl, _⟩ := ownP_mem hx; exact hne
      split
      · rename_i hpn
        have hx := pre_next hpn (fun e => hne e.symm)
        split
        · rename_i hb
          rw [hb] at hx
          have el : notK n l.pairs = l.pairs := notK_all fun x hx2 e => by
            have := pre_bit (bl x hx2)
            rw [e, pre_bit hx] at this; cases this
          rw [TR.pairs, TR.pairs, notK_app, notK_app, e0, el]
          have ih := TR.put_pairs (n := n) (o := o) h2 ho
          refine ((List.Perm.append_left _ (List.Perm.append_left _ ih))).trans ?_
          rw [← List.append_assoc, ← List.append_assoc]
          exact List.perm_middle
        · rename_i hb
          have hb' : bitAt n p.length = false := by simpa using hb
          rw [hb'] at hx
          have er : notK n r.pairs = r.pairs := notK_all fun x hx2 e => by
            have := pre_bit (br x hx2)
            rw [e, pre_bit hx] at this; cases this
          rw [TR.pairs, TR.pairs, notK_app, notK_app, e0, er]
          have ih := TR.put_pairs (n := n) (o := o) h1 ho
          refine ((List.Perm.append_left _ (List.Perm.append_right _ ih))).trans ?_
          rw [List.cons_append]
          exact List.perm_middle
      · rename_i hpn
        have hall : notK n (TR.nd p q l r).pairs = (TR.nd p q l r).pairs := notK_all fun x hx e => hpn (by rw [← e]; exact hroot x hx)
        split
        · split
          · rw [hall, TR.pairs, ownP_ne ho]
            simp [TR.pairs]
          · rw [hall, TR.pairs, ownP_ne ho]
            simp [TR.pairs]
        · split
          · rw [hall, TR.pairs, ownP_no]
            simp only [List.nil_append]
            rw [show (TR.nd n o .nil .nil).pairs = [(n, o)] by simp [TR.pairs, ownP_ne ho]]
            exact List.perm_append_singleton _ _
          · rw [hall, TR.pairs, ownP_no]
            simp only [List.nil_append]
            rw [show (TR.nd n o .nil .nil).pairs = [(n, o)] by simp [TR.pairs, ownP_ne ho]]
            exact List.Perm.refl _

/-! stripping -/
def TR.isNil : TR → Bool
  | .nil => true
  | _ => false
theorem TR.isNil_iff {t : TR} : t.isNil = true ↔ t = .nil := by cases t <;> simp [TR.isNil]
def TR.pick (p : Key) (o : Own) (l r : TR) : TR := if o ≠ noOwn ∨ (l.isNil = false ∧ r.isNil = false) then .nd p o l r else if l.isNil = false then l else r
def TR.strip (is : Key → Own → Bool) : TR → TR
  | .nil => .nil
  | .nd p o l r => TR.pick p (if is p o = true then noOwn else o) (l.strip is) (r.strip is)
theorem TR.under_up {t : TR} {p : Key} {b : Bool} {q : Key} (h : t.under (p ++ [b])) (k : q <+: p) : t.under q := by
  cases t with
  | nil => trivial
  | nd z o l r => exact k.trans (pre_of_snoc h)
theorem TR.strip_valid (is : Key → Own → Bool) : ∀ {t : TR}, t.valid → (t.strip is).valid ∧ ∀ q, t.under q → (t.strip is).under q
  | .nil, _ => ⟨trivial, fun _ _ => trivial⟩
  | .nd p o l r, hv => by
    obtain ⟨h1, h2, h3, h4, h5⟩ := hv
    obtain ⟨k1, k2⟩ := TR.strip_valid is h1
    obtain ⟨k3, k4⟩ := TR.strip_valid is h2
    rw [TR.strip]
    generalize (if is p o = true then noOwn else o) = o'
    unfold TR.pick
    split
    · rename_i hc
      refine ⟨⟨k1, k3, k2 _ h3, k4 _ h4, fun e => ?_⟩, fun q hq => hq⟩
      rcases hc with hc | ⟨a, b⟩
      · exact absurd e hc
      · exact ⟨fun e => by (rw [TR.isNil_iff.2 e] at a; cases a), fun e => by (rw [TR.isNil_iff.2 e] at b; cases b)⟩
    · split
      · exact ⟨k1, fun q hq => TR.under_up (k2 _ h3) hq⟩
      · exact ⟨k3, fun q hq => TR.under_up (k4 _ h4) hq⟩
theorem TR.strip_pairs (is : Key → Own → Bool) : ∀ (t : TR), (t.strip is).pairs = t.pairs.filter fun x => !is x.1 x.2
  | .nil => rfl
  | .nd p o l r => by
    have i1 := TR.strip_pairs is l
    have i2 := TR.strip_pairs is r
    have e0 : (ownP p o).filter (fun x => !is x.1 x.2) = ownP p (if is p o = true then noOwn else o) := by
      unfold ownP
      by_cases ho : o = noOwn
      · subst ho; simp
      · rw [if_neg ho]
        by_cases h : is p o = true
        · simp [h]
        · have h' : is p o = false := by simpa using h
          simp [h', ho]
    rw [TR.strip, TR.pairs, List.filter_append, List.filter_append, e0, ← i1, ← i2]
    generalize (if is p o = true then noOwn else o) = o'
    unfold TR.pick
    split
    · rfl
    · rename_i hc
      have ho : o' = noOwn := by
        by_cases h : o' = noOwn
        · exact h
        · exact absurd (.inl h) hc
      rw [ho, ownP_no]
      split
      · rename_i hl
        have hr : (r.strip is).isNil = true := by
          cases h : (r.strip is).isNil
          · exact absurd (.inr ⟨hl, h⟩) hc
          · rfl
        rw [TR.isNil_iff.1 hr]
        simp [TR.pairs]
      · rename_i hl
        have hl' : (l.strip is).isNil = true := by simpa using hl
        rw [TR.isNil_iff.1 hl']
        simp [TR.pairs]

/-! getting and finding -/
def TR.get : TR → Key → Own
  | .nil, _ => noOwn
  | .nd p o l r, n => if p = n then o else if p <+: n then (if bitAt n p.length = true then r.get n else l.get n) else noOwn
theorem TR.get_pairs : ∀ {t : TR} {n : Key} {o : Own}, t.valid → o ≠ noOwn → (t.get n = o ↔ (n, o) ∈ t.pairs)
  | .nil, n, o, _, ho => by simp only [TR.get, TR.pairs]; exact ⟨fun h => absurd h.symm ho, fun h => by cases h⟩
  | .nd p q l r, n, o, hv, ho => by
    have hroot := TR.root_pre hv
    obtain ⟨h1, h2, h3, h4, h5⟩ := hv
    rw [TR.get]
    split
    · rename_i e; subst e
      constructor
      · rintro rfl; simp [TR.pairs, ownP_ne ho]
      · intro h
        simp only [TR.pairs, List.mem_append] at h
        rcases h with h | h | h
        · obtain ⟨e, _⟩ := ownP_mem h; exact (congrArg Prod.snd e).symm
        · exact absurd rfl (ne_of_snoc (TR.pairs_below h1 h3 _ h))
        · exact absurd rfl (ne_of_snoc (TR.pairs_below h2 h4 _ h))
    · rename_i hne
      have e0 : (n, o) ∉ ownP p q := fun h => by obtain ⟨e, _⟩ := ownP_mem h; exact hne (congrArg Prod.fst e).symm
      split
      · rename_i hpn
        have hx := pre_next hpn (fun e => hne e.symm)
        split
        · rename_i hb
          rw [hb] at hx
          rw [TR.get_pairs h2 ho]
          simp only [TR.pairs, List.mem_append]
          refine ⟨fun h => .inr (.inr h), fun h => ?_⟩
          rcases h with h | h | h
          · exact absurd h e0
          · have := pre_bit (TR.pairs_below h1 h3 _ h)
            rw [pre_bit hx] at this; cases this
          · exact h
        · rename_i hb
          have hb' : bitAt n p.length = false := by simpa using hb
          rw [hb'] at hx
          rw [TR.get_pairs h1 ho]
          simp only [TR.pairs, List.mem_append]
          refine ⟨fun h => .inr (.inl h), fun h => ?_⟩
          rcases h with h | h | h
          · exact absurd h e0
          · exact h
          · have := pre_bit (TR.pairs_below h2 h4 _ h)
            rw [pre_bit hx] at this; cases this
      · rename_i hpn
        exact ⟨fun h => absurd h.symm ho, fun h => absurd (hroot _ h) hpn⟩
def TR.find : TR → Key → Own → Own
  | .nil, _, a => a
  | .nd p o l r, n, a => if p <+: n then (if p = n then (if o ≠ noOwn then o else a) else if bitAt n p.length = true then r.find n (if o ≠ noOwn then o else a) else l.find n (if o ≠ noOwn then o else a)) else a
/-- what the reference keeps: the owner and the length of the longest that has it -/
def foldR (n : Key) (s : Own × Int) (l : List (Key × Own)) : Own × Int := l.foldl (fun s x => if x.1 <+: n ∧ s.2 < (x.1.length : Int) then (x.2, (x.1.length : Int)) else s) s
theorem foldR_app (n : Key) (s : Own × Int) (a b : List (Key × Own)) : foldR n s (a ++ b) = foldR n (foldR n s a) b := List.foldl_append ..
theorem foldR_none {n : Key} : ∀ {l : List (Key × Own)} {s : Own × Int}, (∀ x ∈ l, ¬ x.1 <+: n) → foldR n s l = s
  | [], s, _ => rfl
  | x :: l, s, h => by
    unfold foldR
    rw [List.foldl_cons, if_neg (fun hh => h x (by simp) hh.1)]
    exact foldR_none (l := l) fun y hy => h y (by simp [hy])
theorem TR.find_pairs : ∀ {t : TR} {n : Key} {a : Own} {m : Int}, t.valid → (∀ x ∈ t.pairs, m < (x.1.length : Int)) → (foldR n (a, m) t.pairs).1 = t.find n a ∧ (m ≤ (foldR n (a, m) t.pairs).2 ∧ ((foldR n (a, m) t.pairs).2 = m → foldR n (a, m) t.pairs = (a, m) ∧ ∀ x ∈ t.pairs, ¬ x.1 <+: n))
  | .nil, n, a, m, _, _ => ⟨rfl, Int.le_refl _, fun _ => ⟨rfl, fun x hx => by cases hx⟩⟩
  | .nd p o l r, n, a, m, hv, hm => by
    have hroot := TR.root_pre hv
    obtain ⟨h1, h2, h3, h4, h5⟩ := hv
    have bl : ∀ x ∈ l.pairs, p ++ [false] <+: x.1 := TR.pairs_below h1 h3
    have br : ∀ x ∈ r.pairs, p ++ [true] <+: x.1 := TR.pairs_below h2 h4
    rw [TR.find]
    by_cases hpn : p <+: n
    · rw [if_pos hpn]
      have e0 : foldR n (a, m) (ownP p o) = if o ≠ noOwn then (o, (p.length : Int)) else (a, m) := by
        by_cases ho : o = noOwn
        · rw [ho, ownP_no, if_neg (by simp)]; rfl
        · rw [ownP_ne ho, if_pos ho]
          have : m < (p.length : Int) := hm (p, o) (by simp [TR.pairs, ownP_ne ho])
          simp [foldR, hpn, this]
      obtain ⟨a', m', hs, ha', hm'⟩ : ∃ a' m', (if o ≠ noOwn then (o, (p.length : Int)) else (a, m)) = (a', m') ∧ a' = (if o ≠ noOwn then o else a) ∧ (m' = if o ≠ noOwn then (p.length : Int) else m) := by
        by_cases ho : o = noOwn
        · exact ⟨a, m, by simp [ho], by simp [ho], by simp [ho]⟩
        · exact ⟨o, p.length, by simp [ho], by simp [ho], by simp [ho]⟩
      rw [TR.pairs, foldR_app, e0, hs, ← ha']
      have hlenl : ∀ x ∈ l.pairs, m' < (x.1.length : Int) := fun x hx => by
        have h6 := hm x (by simp [TR.pairs, hx])
        have h7 := (bl x hx).length_le
        simp at h7
        rw [hm']; split <;> omega
      have hlenr : ∀ x ∈ r.pairs, m' < (x.1.length : Int) := fun x hx => by
        have h6 := hm x (by simp [TR.pairs, hx])
        have h7 := (br x hx).length_le
        simp at h7
        rw [hm']; split <;> omega
      have hmm : m ≤ m' ∧ (m' = m → o = noOwn) := by
        by_cases ho : o = noOwn
        · rw [hm', if_neg (by simp [ho])]; exact ⟨Int.le_refl _, fun _ => ho⟩
        · have : m < (p.length : Int) := hm (p, o) (by simp [TR.pairs, ownP_ne ho])
          rw [hm', if_pos ho]; exact ⟨by omega, fun e => by omega⟩
      have done : ∀ s : Own × Int, m' ≤ s.2 → (s.2 = m' → s = (a', m') ∧ ∀ x ∈ l.pairs ++ r.pairs, ¬ x.1 <+: n) → m ≤ s.2 ∧ (s.2 = m → s = (a, m) ∧ ∀ x ∈ ownP p o ++ (l.pairs ++ r.pairs), ¬ x.1 <+: n) := fun s g1 g2 => by
        refine ⟨by omega, fun e => ?_⟩
        have em : m' = m := by omega
        have ho := hmm.2 em
        obtain ⟨q1, q2⟩ := g2 (by omega)
        refine ⟨?_, ?_⟩
        · rw [q1, ha', em, if_neg (by simp [ho])]
        · rw [ho, ownP_no]; exact q2
      by_cases hnp : p = n
      · subst hnp
        rw [if_pos rfl, foldR_app]
        have n1 : ∀ x ∈ l.pairs, ¬ x.1 <+: p := fun x hx h => by
          have a1 := (bl x hx).length_le; have a2 := h.length_le; simp at a1; omega
        have n2 : ∀ x ∈ r.pairs, ¬ x.1 <+: p := fun x hx h => by
          have a1 := (br x hx).length_le; have a2 := h.length_le; simp at a1; omega
        rw [foldR_none n1, foldR_none n2]
        exact ⟨rfl, done _ (Int.le_refl _) fun _ => ⟨rfl, fun x hx => by
          rcases List.mem_append.1 hx with hx | hx
          · exact n1 x hx
          · exact n2 x hx⟩⟩
      · rw [if_neg hnp]
        have hx := pre_next hpn (fun e => hnp e.symm)
        rw [foldR_app]
        cases hb : bitAt n p.length with
        | true =>
          rw [hb] at hx
          have n1 : ∀ x ∈ l.pairs, ¬ x.1 <+: n := fun x hx2 h => by
            have := pre_bit ((bl x hx2).trans h)
            rw [pre_bit hx] at this; cases this
          rw [foldR_none n1, if_pos rfl]
          obtain ⟨k1, k2, k3⟩ := TR.find_pairs (n := n) (a := a') (m := m') h2 hlenr
          exact ⟨k1, done _ k2 fun e => ⟨(k3 e).1, fun x hx => by
            rcases List.mem_append.1 hx with hx | hx
            · exact n1 x hx
            · exact (k3 e).2 x hx⟩⟩
        | false =>
          rw [hb] at hx
          have n2 : ∀ x ∈ r.pairs, ¬ x.1 <+: n := fun x hx2 h => by
            have := pre_bit ((br x hx2).trans h)
            rw [pre_bit hx] at this; cases this
          rw [foldR_none n2, if_neg (by simp)]
          obtain ⟨k1, k2, k3⟩ := TR.find_pairs (n := n) (a := a') (m := m') h1 hlenl
          exact ⟨k1, done _ k2 fun e => ⟨(k3 e).1, fun x hx => by
            rcases List.mem_append.1 hx with hx | hx
            · exact (k3 e).2 x hx
            · exact n2 x hx⟩⟩
    · rw [if_neg hpn]
      have n1 : ∀ x ∈ (TR.nd p o l r).pairs, ¬ x.1 <+: n := fun x hx h => hpn ((hroot x hx).trans h)
      rw [foldR_none n1]
      exact ⟨rfl, Int.le_refl _, fun _ => ⟨rfl, n1⟩⟩
end Go.Proofs.YtgpleldhddpcgaaGreatDoor
