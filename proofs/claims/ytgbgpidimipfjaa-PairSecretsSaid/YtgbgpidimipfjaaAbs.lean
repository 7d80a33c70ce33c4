/- A machine over data: slots hold plain data or names of the call's own objects; a region runs in the order of its text. What it does the Go machine does, in every order that a region may draw. -/
import Derived.Test.YtgbgpidimipfjaaLib
import Derived.StillTail
import Derived.Deep.MidRow
namespace Go.Proofs.Ytgbgpidimipfjaa
open Go.RowKit Go.Sort
set_option linter.unusedVariables false

/-- plain data: a one-cell value, or a slice (n elements of so many cells) that nobody writes to -/
inductive PV where
  | v (x : Value)
  | sl (n size : Nat) (cs : List PV)
  | pt (cs : List PV)

/-- what a slot holds -/
inductive AV where
  | p (x : PV)
  | agg (cs : List AV)
  | tup (vs : List AV)
  | ptr (cs : List PV)
  | ref (o off : Nat)
  | row (o : Nat)
  | psl (o off n size : Nat)
  | fn (f : FuncId) (cs : List AV)
  | mb (b : Bool) (x : AV)
  | ifc
  | mp (o : Nat)
  | any

inductive AObj where
  | box (ty : TypeId) (cs : List AV)
  | row (e : TypeId) (size n : Nat) (cs : List PV)
  | map (es : List (Value × Value))

inductive Slot where
  | un
  | dead
  | live (ob : AObj)

structure St where
  tmps : Nat → AV
  heap : Nat → Slot

mutual
def PRep (S : Nat → Prop) (w : World) : PV → Value → Prop
  | .v x, u => u = x ∧ x.oneCell' = true
  | .sl n size cs, u => ∃ a cap vs, u = .slice a n cap ∧ n ≤ cap ∧ cs.length = n * size ∧ PRepL S w cs vs ∧ (n = 0 ∨ ∃ b off, a = some ⟨b, off, none⟩ ∧ S b ∧ w.rangeAt b off vs)
  | .pt cs, u => ∃ b off vs, u = .pointer (some ⟨b, off, none⟩) ∧ S b ∧ PRepL S w cs vs ∧ w.rangeAt b off vs
def PRepL (S : Nat → Prop) (w : World) : List PV → List Value → Prop
  | [], vs => vs = []
  | c :: cs, vs => ∃ u us, vs = u :: us ∧ PRep S w c u ∧ PRepL S w cs us
end

def blk : Value → Option Nat
  | .pointer (some a) => some a.block
  | .slice (some a) _ _ => some a.block
  | .map (some r) => some r
  | _ => none

mutual
def Rep (S : Nat → Prop) (m : Nat → Option Value) (w : World) : AV → Value → Prop
  | .p x, u => PRep S w x u
  | .agg cs, u => ∃ us, u = .agg us.toArray ∧ RepL S m w cs us ∧ ∀ x ∈ us, x.oneCell' = true
  | .tup cs, u => ∃ us, u = .tuple us.toArray ∧ RepL S m w cs us
  | .ptr cs, u => ∃ b off vs, u = .pointer (some ⟨b, off, none⟩) ∧ S b ∧ PRepL S w cs vs ∧ w.rangeAt b off vs
  | .ref o off, u => ∃ b v0, m o = some v0 ∧ blk v0 = some b ∧ u = .pointer (some ⟨b, off, none⟩)
  | .row o, u => m o = some u ∧ ∃ a n c, u = .slice a n c
  | .psl o off n _, u => ∃ a cap, u = .slice a n cap ∧ n ≤ cap ∧ (n = 0 ∨ ∃ b v0, m o = some v0 ∧ blk v0 = some b ∧ a = some ⟨b, off, none⟩)
  | .fn f cs, u => ∃ us, u = .func (.func f) #[] us.toArray ∧ RepL S m w cs us
  | .mb b x, u => b = true → Rep S m w x u
  | .ifc, u => ∃ t v, u = .iface t v
  | .mp o, u => m o = some u ∧ ∃ r, u = .map (some r)
  | .any, _ => True
def RepL (S : Nat → Prop) (m : Nat → Option Value) (w : World) : List AV → List Value → Prop
  | [], vs => vs = []
  | c :: cs, vs => ∃ u us, vs = u :: us ∧ Rep S m w c u ∧ RepL S m w cs us
end

/-- a frozen span that holds none of so many cells -/
def noFz (fz : Nat × Nat) (n : Nat) : Prop := fz.1 = fz.2 ∨ n ≤ fz.1
theorem noFz.cells {fz : Nat × Nat} {n : Nat} (h : noFz fz n) : ∀ i, i < n → ¬ (fz.1 ≤ i ∧ i < fz.2) := fun i hi hh => by
  rcases h with h | h <;> omega
/-- the slice value v, of n elements of so many cells each, stands at the head of a row of its own (from block B on), whose first cells are us; none of its cells is frozen. -/
def RowAt (w : World) (B : Nat) (e : TypeId) (size : Nat) (v : Value) (n : Nat) (us : List Value) : Prop :=
  us.length = n * size ∧ ((v = .slice none 0 0 ∧ n = 0) ∨
    ∃ g cap cur fz, v = .slice (some ⟨g, 0, none⟩) n cap ∧ B ≤ g ∧ w.heap[g]? = some (.cells cur e fz) ∧ noFz fz cur.size ∧ n ≤ cap ∧ cap ≤ maxLen ∧ cur.size = cap * size ∧ cur.toList.take (n * size) = us)

def ORep (B : Nat) (S : Nat → Prop) (m : Nat → Option Value) (w : World) : AObj → Value → Prop
  | .box ty cs, v => ∃ b us, v = .pointer (some ⟨b, 0, none⟩) ∧ B ≤ b ∧ RepL S m w cs us ∧ (∀ x ∈ us, x.oneCell' = true) ∧ w.heap[b]? = some (.cells us.toArray ty (0, 0))
  | .row e size n cs, v => ∃ us, PRepL S w cs us ∧ RowAt w B e size v n us
  | .map es, v => ∃ r arr ck, v = .map (some r) ∧ B ≤ r ∧ w.heap[r]? = some (.map arr ck) ∧ (arr.toList.map fun e => (e.key, e.val)) = es

structure Mem (w0 : World) (A : Nat → Prop) (S : Nat → Prop) (m : Nat → Option Value) (heap : Nat → Slot) (w : World) : Prop where
  bel : Below w0.heap.size w0 w
  sA : ∀ b, S b → A b ∨ w0.heap.size ≤ b
  sW : ∀ b, S b → b < w.heap.size
  un : ∀ o, heap o = .un → m o = none
  live : ∀ o ob, heap o = .live ob → ∃ v, m o = some v ∧ ORep w0.heap.size S m w ob v ∧ ∀ b, blk v = some b → ¬ S b
  inj : ∀ o o' ob ob' v v' b, heap o = .live ob → heap o' = .live ob' → m o = some v → m o' = some v' → blk v = some b → blk v' = some b → o = o'

structure Grow (S : Nat → Prop) (m : Nat → Option Value) (w : World) (S' : Nat → Prop) (m' : Nat → Option Value) (w' : World) : Prop where
  s : ∀ b, S b → S' b
  w : ∀ b, S b → w'.heap[b]? = w.heap[b]?
  m : ∀ o v, m o = some v → m' o = some v

theorem Grow.refl (S : Nat → Prop) (m : Nat → Option Value) (w : World) : Grow S m w S m w := ⟨fun _ h => h, fun _ _ => rfl, fun _ _ h => h⟩
theorem Grow.trans {S S' S'' : Nat → Prop} {m m' m'' : Nat → Option Value} {w w' w'' : World} (h : Grow S m w S' m' w') (k : Grow S' m' w' S'' m'' w'') : Grow S m w S'' m'' w'' :=
  ⟨fun b hb => k.s b (h.s b hb), fun b hb => (k.w b (h.s b hb)).trans (h.w b hb), fun o v ho => k.m o v (h.m o v ho)⟩

theorem rangeAt_same {w w' : World} {b off : Nat} {vs : List Value} (h : w'.heap[b]? = w.heap[b]?) (k : w.rangeAt b off vs) : w'.rangeAt b off vs :=
  fun j v hj => (World.cell?_of_block (w := w) (a := ⟨b, off + j, none⟩) h).trans (k j v hj)

section
variable {S S' : Nat → Prop} {m m' : Nat → Option Value} {w w' : World}
mutual
theorem PRep.mono (hs : ∀ b, S b → S' b) (hw : ∀ b, S b → w'.heap[b]? = w.heap[b]?) : ∀ (x : PV) (u : Value), PRep S w x u → PRep S' w' x u
  | .v x, u, h => by simpa [PRep] using h
  | .sl n size cs, u, h => by
    simp only [PRep] at h ⊢
    obtain ⟨a, cap, vs, h1, h2, h3, h4, h5⟩ := h
    refine ⟨a, cap, vs, h1, h2, h3, PRepL.mono hs hw cs vs h4, ?_⟩
    rcases h5 with h5 | ⟨b, off, h6, h7, h8⟩
    · exact .inl h5
    · exact .inr ⟨b, off, h6, hs b h7, rangeAt_same (hw b h7) h8⟩
  | .pt cs, u, h => by
    simp only [PRep] at h ⊢
    obtain ⟨b, off, vs, h1, h2, h3, h4⟩ := h
    exact ⟨b, off, vs, h1, hs b h2, PRepL.mono hs hw cs vs h3, rangeAt_same (hw b h2) h4⟩
theorem PRepL.mono (hs : ∀ b, S b → S' b) (hw : ∀ b, S b → w'.heap[b]? = w.heap[b]?) : ∀ (x : List PV) (u : List Value), PRepL S w x u → PRepL S' w' x u
  | [], u, h => by simpa [PRepL] using h
  | c :: cs, u, h => by
    simp only [PRepL] at h ⊢
    obtain ⟨u, us, h1, h2, h3⟩ := h
    exact ⟨u, us, h1, PRep.mono hs hw c u h2, PRepL.mono hs hw cs us h3⟩
end
mutual
theorem Rep.mono (g : Grow S m w S' m' w') : ∀ (x : AV) (u : Value), Rep S m w x u → Rep S' m' w' x u
  | .p x, u, h => by simp only [Rep] at h ⊢; exact PRep.mono g.s g.w x u h
  | .agg cs, u, h => by
    simp only [Rep] at h ⊢
    obtain ⟨us, h1, h2, h3⟩ := h
    exact ⟨us, h1, RepL.mono g cs us h2, h3⟩
  | .tup cs, u, h => by
    simp only [Rep] at h ⊢
    obtain ⟨us, h1, h2⟩ := h
    exact ⟨us, h1, RepL.mono g cs us h2⟩
  | .ptr cs, u, h => by
    simp only [Rep] at h ⊢
    obtain ⟨b, off, vs, h1, h2, h3, h4⟩ := h
    exact ⟨b, off, vs, h1, g.s b h2, PRepL.mono g.s g.w cs vs h3, rangeAt_same (g.w b h2) h4⟩
  | .ref o off, u, h => by
    simp only [Rep] at h ⊢
    obtain ⟨b, v0, h1, h2⟩ := h
    exact ⟨b, v0, g.m _ _ h1, h2⟩
  | .row o, u, h => by simp only [Rep] at h ⊢; exact ⟨g.m _ _ h.1, h.2⟩
  | .psl o off n _, u, h => by
    simp only [Rep] at h ⊢
    obtain ⟨a, cap, h1, h2, h3⟩ := h
    refine ⟨a, cap, h1, h2, ?_⟩
    rcases h3 with h3 | ⟨b, v0, h4, h5, h6⟩
    · exact .inl h3
    · exact .inr ⟨b, v0, g.m _ _ h4, h5, h6⟩
  | .fn f cs, u, h => by
    simp only [Rep] at h ⊢
    obtain ⟨us, h1, h2⟩ := h
    exact ⟨us, h1, RepL.mono g cs us h2⟩
  | .mb b x, u, h => by
    simp only [Rep] at h ⊢
    exact fun hb => Rep.mono g x u (h hb)
  | .ifc, u, h => by simpa only [Rep] using h
  | .mp o, u, h => by simp only [Rep] at h ⊢; exact ⟨g.m _ _ h.1, h.2⟩
  | .any, u, h => by simp only [Rep]
theorem RepL.mono (g : Grow S m w S' m' w') : ∀ (x : List AV) (u : List Value), RepL S m w x u → RepL S' m' w' x u
  | [], u, h => by simpa [RepL] using h
  | c :: cs, u, h => by
    simp only [RepL] at h ⊢
    obtain ⟨u, us, h1, h2, h3⟩ := h
    exact ⟨u, us, h1, Rep.mono g c u h2, RepL.mono g cs us h3⟩
end
theorem PRepL.length : ∀ {cs : List PV} {us : List Value}, PRepL S w cs us → us.length = cs.length
  | [], us, h => by simp only [PRepL] at h; simp [h]
  | c :: cs, us, h => by
    simp only [PRepL] at h
    obtain ⟨u, us, rfl, _, h3⟩ := h
    simp [h3.length]
theorem RepL.length : ∀ {cs : List AV} {us : List Value}, RepL S m w cs us → us.length = cs.length
  | [], us, h => by simp only [RepL] at h; simp [h]
  | c :: cs, us, h => by
    simp only [RepL] at h
    obtain ⟨u, us, rfl, _, h3⟩ := h
    simp [h3.length]
theorem PRep.one {x : PV} {u : Value} (h : PRep S w x u) : u.oneCell' = true := by
  cases x with
  | v x => simp only [PRep] at h; rw [h.1]; exact h.2
  | sl n size cs => simp only [PRep] at h; obtain ⟨a, cap, vs, h1, _⟩ := h; rw [h1]; rfl
  | pt cs => simp only [PRep] at h; obtain ⟨b, off, vs, h1, _⟩ := h; rw [h1]; rfl
theorem PRepL.one : ∀ {cs : List PV} {us : List Value}, PRepL S w cs us → ∀ x ∈ us, x.oneCell' = true
  | [], us, h => by simp only [PRepL] at h; simp [h]
  | c :: cs, us, h => by
    simp only [PRepL] at h
    obtain ⟨u, us, rfl, h2, h3⟩ := h
    intro x hx
    rcases List.mem_cons.1 hx with rfl | hx
    · exact h2.one
    · exact h3.one x hx
theorem PRepL.at_ : ∀ {cs : List PV} {us : List Value} {k : Nat} {c : PV}, PRepL S w cs us → cs[k]? = some c → ∃ u, us[k]? = some u ∧ PRep S w c u
  | [], us, k, c, h, hk => by simp at hk
  | c :: cs, us, 0, d, h, hk => by
    simp only [PRepL] at h
    obtain ⟨u, us, rfl, h2, h3⟩ := h
    simp at hk
    subst hk
    exact ⟨u, by simp, h2⟩
  | c :: cs, us, k + 1, d, h, hk => by
    simp only [PRepL] at h
    obtain ⟨u, us, rfl, h2, h3⟩ := h
    simp at hk
    obtain ⟨v, h4, h5⟩ := h3.at_ hk
    exact ⟨v, by simpa using h4, h5⟩
theorem RepL.at_ : ∀ {cs : List AV} {us : List Value} {k : Nat} {c : AV}, RepL S m w cs us → cs[k]? = some c → ∃ u, us[k]? = some u ∧ Rep S m w c u
  | [], us, k, c, h, hk => by simp at hk
  | c :: cs, us, 0, d, h, hk => by
    simp only [RepL] at h
    obtain ⟨u, us, rfl, h2, h3⟩ := h
    simp at hk
    subst hk
    exact ⟨u, by simp, h2⟩
  | c :: cs, us, k + 1, d, h, hk => by
    simp only [RepL] at h
    obtain ⟨u, us, rfl, h2, h3⟩ := h
    simp at hk
    obtain ⟨v, h4, h5⟩ := h3.at_ hk
    exact ⟨v, by simpa using h4, h5⟩
theorem PRepL.drop : ∀ {cs : List PV} {us : List Value} (k : Nat), PRepL S w cs us → PRepL S w (cs.drop k) (us.drop k)
  | [], us, k, h => by simp only [PRepL] at h; simp [h, PRepL]
  | c :: cs, us, 0, h => h
  | c :: cs, us, k + 1, h => by
    simp only [PRepL] at h
    obtain ⟨u, us, rfl, h2, h3⟩ := h
    simpa using h3.drop k
theorem PRepL.take : ∀ {cs : List PV} {us : List Value} (k : Nat), PRepL S w cs us → PRepL S w (cs.take k) (us.take k)
  | [], us, k, h => by simp only [PRepL] at h; simp [h, PRepL]
  | c :: cs, us, 0, h => by simp [PRepL]
  | c :: cs, us, k + 1, h => by
    simp only [PRepL] at h
    obtain ⟨u, us, rfl, h2, h3⟩ := h
    simp only [List.take_succ_cons, PRepL]
    exact ⟨u, _, rfl, h2, h3.take k⟩
theorem PRepL.append : ∀ {cs ds : List PV} {us vs : List Value}, PRepL S w cs us → PRepL S w ds vs → PRepL S w (cs ++ ds) (us ++ vs)
  | [], ds, us, vs, h, k => by simp only [PRepL] at h; simpa [h] using k
  | c :: cs, ds, us, vs, h, k => by
    simp only [PRepL] at h
    obtain ⟨u, us, rfl, h2, h3⟩ := h
    simp only [List.cons_append, PRepL]
    exact ⟨u, _, rfl, h2, h3.append k⟩
theorem PRepL.set : ∀ {cs : List PV} {us : List Value} (k : Nat) {c : PV} {u : Value}, PRepL S w cs us → PRep S w c u → PRepL S w (cs.set k c) (us.set k u)
  | [], us, k, c, u, h, _ => by simp only [PRepL] at h; simp [h, PRepL]
  | c :: cs, us, 0, d, v, h, hd => by
    simp only [PRepL] at h
    obtain ⟨u, us, rfl, h2, h3⟩ := h
    simp only [List.set_cons_zero, PRepL]
    exact ⟨v, _, rfl, hd, h3⟩
  | c :: cs, us, k + 1, d, v, h, hd => by
    simp only [PRepL] at h
    obtain ⟨u, us, rfl, h2, h3⟩ := h
    simp only [List.set_cons_succ, PRepL]
    exact ⟨u, _, rfl, h2, h3.set k hd⟩
theorem RepL.set : ∀ {cs : List AV} {us : List Value} (k : Nat) {c : AV} {u : Value}, RepL S m w cs us → Rep S m w c u → RepL S m w (cs.set k c) (us.set k u)
  | [], us, k, c, u, h, _ => by simp only [RepL] at h; simp [h, RepL]
  | c :: cs, us, 0, d, v, h, hd => by
    simp only [RepL] at h
    obtain ⟨u, us, rfl, h2, h3⟩ := h
    simp only [List.set_cons_zero, RepL]
    exact ⟨v, _, rfl, hd, h3⟩
  | c :: cs, us, k + 1, d, v, h, hd => by
    simp only [RepL] at h
    obtain ⟨u, us, rfl, h2, h3⟩ := h
    simp only [List.set_cons_succ, RepL]
    exact ⟨u, _, rfl, h2, h3.set k hd⟩
theorem RepL.drop : ∀ {cs : List AV} {us : List Value} (k : Nat), RepL S m w cs us → RepL S m w (cs.drop k) (us.drop k)
  | [], us, k, h => by simp only [RepL] at h; simp [h, RepL]
  | c :: cs, us, 0, h => h
  | c :: cs, us, k + 1, h => by
    simp only [RepL] at h
    obtain ⟨u, us, rfl, h2, h3⟩ := h
    simpa using h3.drop k
theorem RepL.take : ∀ {cs : List AV} {us : List Value} (k : Nat), RepL S m w cs us → RepL S m w (cs.take k) (us.take k)
  | [], us, k, h => by simp only [RepL] at h; simp [h, RepL]
  | c :: cs, us, 0, h => by simp [RepL]
  | c :: cs, us, k + 1, h => by
    simp only [RepL] at h
    obtain ⟨u, us, rfl, h2, h3⟩ := h
    simp only [List.take_succ_cons, RepL]
    exact ⟨u, _, rfl, h2, h3.take k⟩
theorem RepL.append : ∀ {cs ds : List AV} {us vs : List Value}, RepL S m w cs us → RepL S m w ds vs → RepL S m w (cs ++ ds) (us ++ vs)
  | [], ds, us, vs, h, k => by simp only [RepL] at h; simpa [h] using k
  | c :: cs, ds, us, vs, h, k => by
    simp only [RepL] at h
    obtain ⟨u, us, rfl, h2, h3⟩ := h
    simp only [List.cons_append, RepL]
    exact ⟨u, _, rfl, h2, h3.append k⟩
theorem PRepL.repL : ∀ {cs : List PV} {us : List Value}, PRepL S w cs us → RepL S m w (cs.map AV.p) us
  | [], us, h => by simpa [PRepL, RepL] using h
  | c :: cs, us, h => by
    simp only [PRepL] at h
    obtain ⟨u, us, rfl, h2, h3⟩ := h
    simp only [List.map_cons, RepL, Rep]
    exact ⟨u, us, rfl, h2, h3.repL⟩
theorem repL_prepL : ∀ {cs : List PV} {us : List Value}, RepL S m w (cs.map AV.p) us → PRepL S w cs us
  | [], us, h => by simpa [PRepL, RepL] using h
  | c :: cs, us, h => by
    simp only [List.map_cons, RepL, Rep] at h
    obtain ⟨u, us, rfl, h2, h3⟩ := h
    simp only [PRepL]
    exact ⟨u, us, rfl, h2, repL_prepL h3⟩
theorem ORep.mono {B : Nat} (g : Grow S m w S' m' w') {ob : AObj} {v : Value} (h : ORep B S m w ob v) (hb : ∀ b, blk v = some b → w'.heap[b]? = w.heap[b]?) : ORep B S' m' w' ob v := by
  cases ob with
  | box ty cs =>
    obtain ⟨b, us, rfl, h2, h3, h4, h5⟩ := h
    exact ⟨b, us, rfl, h2, RepL.mono g _ _ h3, h4, (hb b rfl).trans h5⟩
  | row e size n cs =>
    obtain ⟨us, h1, h2, h3⟩ := h
    refine ⟨us, PRepL.mono g.s g.w _ _ h1, h2, ?_⟩
    rcases h3 with h3 | ⟨b, cap, cur, fz, rfl, h4, h5, h6⟩
    · exact .inl h3
    · exact .inr ⟨b, cap, cur, fz, rfl, h4, (hb b rfl).trans h5, h6⟩
  | map es =>
    obtain ⟨r, arr, ck, rfl, h2, h3, h4⟩ := h
    exact ⟨r, arr, ck, rfl, h2, (hb r rfl).trans h3, h4⟩
theorem ORep.lt {B : Nat} {ob : AObj} {v : Value} (h : ORep B S m w ob v) {b : Nat} (hb : blk v = some b) : B ≤ b ∧ b < w.heap.size := by
  cases ob with
  | box ty cs =>
    obtain ⟨b', us, rfl, h2, h3, h4, h5⟩ := h
    obtain rfl : b' = b := by simpa [blk] using hb
    exact ⟨h2, (Array.getElem?_eq_some_iff.1 h5).1⟩
  | row e size n cs =>
    obtain ⟨us, h1, h2, h3⟩ := h
    rcases h3 with ⟨rfl, _⟩ | ⟨b', cap, cur, fz, rfl, h4, h5, h6⟩
    · simp [blk] at hb
    · obtain rfl : b' = b := by simpa [blk] using hb
      exact ⟨h4, (Array.getElem?_eq_some_iff.1 h5).1⟩
  | map es =>
    obtain ⟨r, arr, ck, rfl, h2, h3, h4⟩ := h
    obtain rfl : r = b := by simpa [blk] using hb
    exact ⟨h2, (Array.getElem?_eq_some_iff.1 h3).1⟩
end
end Go.Proofs.Ytgbgpidimipfjaa
