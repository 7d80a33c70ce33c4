/- Used. -/
import Derived.Test.YtlfjpippeeikdaaGreatDoorSRc
set_option maxRecDepth 100000
set_option maxHeartbeats 16000000
set_option linter.all false
namespace Go.Proofs.YtlfjpippeeikdaaGreatDoor
open Go.RowKit
open Go.Sort
inductive CellV (fam : List (Nat × Slot)) : List AV → List PV → Prop
 | nil : CellV fam [] []
 | p (x : PV) (cs : List AV) (ps : List PV) : CellV fam cs ps → CellV fam (.p x :: cs) (x :: ps)
 | row (o : Nat) (e size n : Nat) (qs : List PV) (cs : List AV) (ps : List PV) : (o, Slot.live (.row e size n qs)) ∈ fam → CellV fam cs ps → CellV fam (.row o :: cs) (.sl n size qs :: ps)
theorem CellV.append {fam : List (Nat × Slot)} {cs ds : List AV} {ps qs : List PV} (h : CellV fam cs ps) (k : CellV fam ds qs) : CellV fam (cs ++ ds) (ps ++ qs) := by
 induction h with
 | nil => exact k
 | p x cs ps _ ih => exact .p x _ _ ih
 | row o e size n q cs ps h1 _ ih => exact .row o e size n q _ _ h1 ih
theorem CellV.mono {fam fam' : List (Nat × Slot)} (hs : ∀ p ∈ fam, p ∈ fam') {cs : List AV} {ps : List PV} (h : CellV fam cs ps) : CellV fam' cs ps := by
 induction h with
 | nil => exact .nil
 | p x cs ps _ ih => exact .p x _ _ ih
 | row o e size n q cs ps h1 _ ih => exact .row o e size n q _ _ (hs _ h1) ih
section
variable {w0 : World} {A S T : Nat → Prop} {m : Nat → Option Value} {heap : Nat → Slot} {w : World} {fam : List (Nat × Slot)}
theorem zel (hm : Mem w0 A S m heap w) (hS : ∀ b, S b → T b) {o e size n : Nat} {qs : List PV} (ho : heap o = qk e size n qs) (hT : ∀ v b, m o = some v → blk v = some b → T b) {u : Value} (hr : m o = some u) : PRep T w (.sl n size qs) u := by
 obtain ⟨v, h1, ⟨us, h2, h3⟩, _⟩ := hm.live o _ ho
 rw [hr] at h1
 obtain rfl := Option.some.inj h1
 have hl := h2.length
 have hr2 := fun b hb => zbM h3 (b := b) hb
 simp only [PRep]
 rcases h3.2 with ⟨rfl, rfl⟩ | ⟨g, cap, cur, fz, rfl, _, hh, _, h8, h9, _, h10⟩
 ·exact ⟨none, 0, us, rfl, Nat.le_refl _, by rw [← hl, h3.1], PRepL.mono hS (fun _ _ => rfl) _ _ h2, .inl rfl⟩
 ·exact ⟨some ⟨g, 0, none⟩, cap, us, rfl, h8, by rw [← hl, h3.1], PRepL.mono hS (fun _ _ => rfl) _ _ h2, .inr ⟨g, 0, rfl, hT _ g hr rfl, hr2 g rfl⟩⟩
theorem cellV_rep (hm : Mem w0 A S m heap w) (hS : ∀ b, S b → T b) (hfam : ∀ p ∈ fam, heap p.1 = p.2) (hT : ∀ p ∈ fam, ∀ v b, m p.1 = some v → blk v = some b → T b) {cs : List AV} {ps : List PV} (h : CellV fam cs ps) : ∀ {us : List Value}, RepL S m w cs us → PRepL T w ps us := by
 induction h with
 | nil => intro us h; simpa only [RepL, PRepL] using h
 | p x cs ps _ ih =>
  intro us h
  simp only [RepL, PRepL, Rep] at h ⊢
  obtain ⟨u, us, rfl, h1, h2⟩ := h
  exact ⟨u, us, rfl, PRep.mono hS (fun _ _ => rfl) _ _ h1, ih h2⟩
 | row o e size n qs cs ps h1 _ ih =>
  intro us h
  simp only [RepL, PRepL, Rep] at h ⊢
  obtain ⟨u, us, rfl, ⟨h2, _⟩, h3⟩ := h
  exact ⟨u, us, rfl, zel hm hS (hfam _ h1) (fun v b hv hb => hT _ h1 v b hv hb) h2, ih h3⟩
theorem rowA_rep (hm : Mem w0 A S m heap w) (hS : ∀ b, S b → T b) (hfam : ∀ p ∈ fam, heap p.1 = p.2) (hT : ∀ p ∈ fam, ∀ v b, m p.1 = some v → blk v = some b → T b) {o e size n : Nat} {c : Option Nat} {cs : List AV} {ps : List PV} (h : CellV fam cs ps)
 (ho : heap o = .live (.rowA e size n c cs)) (hTo : ∀ v b, m o = some v → blk v = some b → T b) {u : Value} (hr : m o = some u) : PRep T w (.sl n size ps) u := by
 obtain ⟨v, h1, ⟨us, h2, h3, _⟩, _⟩ := hm.live o _ ho
 rw [hr] at h1
 obtain rfl := Option.some.inj h1
 have h4 := cellV_rep hm hS hfam hT h h2
 have hl := h4.length
 have hr2 := fun b hb => zbM h3 (b := b) hb
 simp only [PRep]
 rcases h3.2 with ⟨rfl, rfl⟩ | ⟨g, cap, cur, fz, rfl, _, hh, _, h8, h9, _, h10⟩
 ·exact ⟨none, 0, us, rfl, Nat.le_refl _, by rw [← hl, h3.1], h4, .inl rfl⟩
 ·exact ⟨some ⟨g, 0, none⟩, cap, us, rfl, h8, by rw [← hl, h3.1], h4, .inr ⟨g, 0, rfl, hTo _ g hr rfl, hr2 g rfl⟩⟩
end
section
variable {P : Program} {d : Option Tmp} {ty : TypeId} {pos : String} {af : Array Edge} {g : Option (Nat × Bool)} {x : Operand} {args : Array Operand} {ts : Array TypeId} {f : FuncId} {fn : Func}
theorem a_callD {k1 k2 y : PV} {o e size n : Nat} {c : Option Nat} {cs : List AV} {ps : List PV} {fam : List (Nat × Slot)} {res : AV} (hf : P.funcs[f]? = some fn) (hb : fn.body.isNone = false) (hn : (fn.name == "runtime.NumGoroutine") = false)
 (hV : CellV fam cs ps) (hl : fam.all (fun p => match p.2 with | .live _ => true | _ => false) = true) (hC : Fn P f [.agg [.p k1, .p k2, ql n size ps], .p y] res []) (h1 : res.noSl = true) (h3 : res.okIn [] = true) :
 AOp P ⟨d, .call { callee := .value x, args := args, argTypes := ts }, ty, pos, af, g⟩ [.fn f [], .agg [.p k1, .p k2, .row o], .p y] ((o, .live (.rowA e size n c cs)) :: fam) [] res := by
 intro w0 A S m heap w ev hm hR hrd
 obtain ⟨us, e1, e2⟩ := zfj hR
 unfold Out
 rw [zdZ hf hb hn e1]
 have e4 : args.map ev ++ us.toArray = ((args.map ev).toList ++ us).toArray := qC
 rw [e4]
 generalize (args.map ev).toList ++ us = L at e2
 have ho : heap o = .live (.rowA e size n c cs) := hrd (o, _) qC
 have hfam : ∀ p ∈ fam, heap p.1 = p.2 := fun p hp => hrd p qaX
 have hTl : ∀ o ob v b, heap o = .live ob → m o = some v → blk v = some b → b < w.heap.size := fun o ob v b h1 h2 h3 => by
  obtain ⟨v', k1, k2, _⟩ := hm.live o ob h1
  rw [h2] at k1; cases k1
  exact (k2.lt h3).2
 have hT : ∀ p ∈ fam, ∀ v b, m p.1 = some v → blk v = some b → b < w.heap.size := fun p hp v b h2 h3 => by
  have := qbU.1 hl p hp
  have h1 := hfam p hp
  cases hs : p.2 with
  | live ob => exact hTl p.1 ob v b (h1.trans hs) h2 h3
  | un => rw [hs] at this; cases this
  | dead => rw [hs] at this; cases this
 have e3 : RepL (fun b => b < w.heap.size) (fun _ => none) w [.agg [.p k1, .p k2, ql n size ps], .p y] L := by
  simp only [qbA, RepL, Rep] at e2 ⊢
  obtain ⟨u, _, rfl, ⟨ua, rfl, ⟨v1, _, rfl, q1, v2, _, rfl, q2, v3, _, rfl, ⟨q3, _⟩, rfl⟩, q4⟩, u2, _, rfl, q5, rfl⟩ := e2
  have hs : ∀ b, S b → b < w.heap.size := fun b hb => hm.sW b hb
  exact ⟨_, _, rfl, ⟨_, rfl, ⟨v1, _, rfl, PRep.mono hs (fun _ _ => rfl) _ _ q1, v2, _, rfl, PRep.mono hs (fun _ _ => rfl) _ _ q2, v3, _, rfl, rowA_rep hm hs hfam hT hV ho (fun v b h2 h3 => hTl o _ v b ho h2 h3) q3, rfl⟩, q4⟩, u2, _, rfl, PRep.mono hs (fun _ _ => rfl) _ _ q5, rfl⟩
 have hcall := hC w (fun b => b < w.heap.size) _ (fun b h => h) (hm.gl.below hm.bel) e3
 refine hcall.mono fun en w' ⟨v, he, S', m', hres, hk⟩ => ⟨v, he, ?_⟩
 obtain ⟨m2, k1, k2, k3⟩ := zfB (S2 := S) (news := []) (fun o => o) hm hk (Rep.noSl _ _ h1 hres) (fun o ob u ho hr => by cases ho) (fun b h => h) (fun b h => .inl h) (fun k hk => by cases hk) rfl rfl h3
 rw [zij] at k1
 exact ⟨S, m2, k1, k2, k3⟩
end
theorem zhd {h : Nat → Slot} : ∀ {l : List (Nat × Slot)} {o : Nat}, (updL h (l.map fun p => (p.1, Slot.dead)) o = .dead ∧ o ∈ l.map Prod.fst) ∨ (updL h (l.map fun p => (p.1, Slot.dead)) o = h o ∧ o ∉ l.map Prod.fst)
 | [], o => .inr ⟨rfl, qC⟩
 | (n, s) :: l, o => by
  by_cases e : o = n
  ·subst e; exact .inl ⟨by simp [updL], qC⟩
  ·rcases zhd (h := h) (l := l) (o := o) with ⟨h1, h2⟩ | ⟨h1, h2⟩
   ·exact .inl ⟨by simp only [qbj, updL, nbeq e, cond_false]; exact h1, by simp [h2]⟩
   ·exact .inr ⟨by simp only [qbj, updL, nbeq e, cond_false]; exact h1, by simp only [qbj, qbm, not_or]; exact ⟨e, h2⟩⟩
theorem zd1 {st : St} {fam : List (Nat × Slot)} {o e size n : Nat} {c : Option Nat} {cs : List AV} {ps : List PV} (hV : CellV fam cs ps) (hfam : ∀ p ∈ fam, st.heap p.1 = p.2) (hl : fam.all (fun p => match p.2 with | .live _ => true | _ => false) = true)
 (ho : st.heap o = .live (.rowA e size n c cs)) (hno : o ∉ fam.map Prod.fst) : ReO st ⟨st.tmps, updL st.heap ((o, qk e size n ps) :: fam.map fun p => (p.1, .dead))⟩ := by
 rintro w0 A nt a w ⟨⟨S, m, hm, hj, hr⟩, hsz, hd⟩
 have hlive : ∀ p ∈ fam, ∃ ob, st.heap p.1 = .live ob := fun p hp => by
  have := qbU.1 hl p hp
  have h1 := hfam p hp
  cases hs : p.2 with
  | live ob => exact ⟨ob, h1.trans hs⟩
  | un => rw [hs] at this; cases this
  | dead => rw [hs] at this; cases this
 obtain ⟨S', hS'⟩ : ∃ S' : Nat → Prop, S' = fun b => S b ∨ ∃ p ∈ fam, ∃ v, m p.1 = some v ∧ blk v = some b := ⟨_, rfl⟩
 have hs : ∀ b, S b → S' b := fun b hb => by rw [hS']; exact .inl hb
 have hTf : ∀ p ∈ fam, ∀ v b, m p.1 = some v → blk v = some b → S' b := fun p hp v b h1 h2 => by rw [hS']; exact .inr ⟨p, hp, v, h1, h2⟩
 have g : Grow S m w S' m w := ⟨hs, fun _ _ => rfl, fun _ _ h => h⟩
 have hold : ∀ x ob, updL st.heap ((o, qk e size n ps) :: fam.map fun p => (p.1, .dead)) x = .live ob → x ≠ o → st.heap x = .live ob ∧ x ∉ fam.map Prod.fst := fun x ob hx hne => by
  simp only [updL, nbeq hne, cond_false] at hx
  rcases zhd (h := st.heap) (l := fam) (o := x) with ⟨h1, _⟩ | ⟨h1, h2⟩
  ·rw [h1] at hx; cases hx
  ·rw [h1] at hx; exact ⟨hx, h2⟩
 have hnS : ∀ x ob v b, st.heap x = .live ob → x ∉ fam.map Prod.fst → m x = some v → blk v = some b → ¬ S' b := fun x ob v b hx hnf hv hb hS => by
  obtain ⟨v', k1, _, k3⟩ := hm.live x ob hx
  rw [hv] at k1; cases k1
  rw [hS'] at hS
  rcases hS with hS | ⟨p, hp, v', h1, h2⟩
  ·exact k3 b hb hS
  ·obtain ⟨ob', hob⟩ := hlive p hp
   have := hm.inj _ _ _ _ _ _ _ hx hob hv h1 hb h2
   exact hnf (qbo.2 ⟨p, hp, this.symm⟩)
 refine ⟨⟨S', m, ⟨hm.bel, ?_, ?_, ?_, ?_, ?_, hm.gl⟩, A.up _ _ _ _ _ _ g hj, fun k => Rep.mono g _ _ (hr k)⟩, hsz, hd⟩
 ·intro b hb
  rw [hS'] at hb
  rcases hb with hb | ⟨p, hp, v, h1, h2⟩
  ·exact hm.sA b hb
  ·obtain ⟨ob, hob⟩ := hlive p hp
   obtain ⟨v', k1, k2, _⟩ := hm.live _ _ hob
   rw [h1] at k1; cases k1
   exact .inr (k2.lt h2).1
 ·intro b hb
  rw [hS'] at hb
  rcases hb with hb | ⟨p, hp, v, h1, h2⟩
  ·exact hm.sW b hb
  ·obtain ⟨ob, hob⟩ := hlive p hp
   obtain ⟨v', k1, k2, _⟩ := hm.live _ _ hob
   rw [h1] at k1; cases k1
   exact (k2.lt h2).2
 ·intro x hx
  by_cases e1 : x = o
  ·subst e1; simp [updL] at hx
  ·simp only [updL, nbeq e1, cond_false] at hx
   rcases zhd (h := st.heap) (l := fam) (o := x) with ⟨h1, _⟩ | ⟨h1, h2⟩
   ·rw [h1] at hx; cases hx
   ·rw [h1] at hx; exact hm.un x hx
 ·intro x ob hx
  by_cases e1 : x = o
  ·subst e1
   simp only [updL, qca, cond_true, Slot.live.injEq] at hx
   subst hx
   obtain ⟨v, h1, ⟨us, h2, h3, _⟩, h4⟩ := hm.live x _ ho
   exact ⟨v, h1, ⟨us, cellV_rep hm hs hfam hTf hV h2, h3⟩, fun b hb => hnS x _ v b ho hno h1 hb⟩
  ·obtain ⟨h1, h2⟩ := hold x ob hx e1
   obtain ⟨v, k1, k2, k3⟩ := hm.live x ob h1
   exact ⟨v, k1, k2.mono g fun _ _ => rfl, fun b hb => hnS x ob v b h1 h2 k1 hb⟩
 ·intro x y ob1 ob2 v1 v2 b h1 h2 h3 h4 h5 h6
  have key : ∀ z obz, updL st.heap ((o, qk e size n ps) :: fam.map fun p => (p.1, .dead)) z = .live obz → ∃ ob', st.heap z = .live ob' := fun z obz hz => by
   by_cases e1 : z = o
   ·subst e1; exact ⟨_, ho⟩
   ·exact ⟨_, (hold z obz hz e1).1⟩
  obtain ⟨_, g1⟩ := key _ _ h1
  obtain ⟨_, g2⟩ := key _ _ h2
  exact jdc
def cutN (N : List Nat) (m : Nat → Option Value) (o : Nat) : Option Value := bif N.elem o then none else m o
section
variable {S S' : Nat → Prop} {m m' : Nat → Option Value} {w w' : World} {N : List Nat}
theorem cutN_f {o : Nat} (h : (!N.elem o) = true) : cutN N m o = m o := by
 unfold cutN
 rw [qcn] at h
 rw [h]; rfl
theorem ziy {o : Nat} {v : Value} (hN : ∀ n, N.elem n = true → m n = none) (h : m o = some v) (m' : Nat → Option Value) : cutN N m' o = m' o := by
 cases hq : N.elem o with
 | true => rw [hN o hq] at h; cases h
 | false => exact cutN_f (by rw [hq]; rfl)
mutual
theorem rep_cut2 (hN : ∀ n, N.elem n = true → m n = none) : ∀ (x : AV) (u v : Value), Rep S m w x v → Rep S' m' w' x u → Rep S' (cutN N m') w' x u
 | .p x, u, v, _, h => by simp only [Rep] at h ⊢; exact h
 | .agg cs, u, v, k, h => by
  simp only [Rep] at h k ⊢
  obtain ⟨us, rfl, h1, h2⟩ := h
  obtain ⟨vs, _, k1, _⟩ := k
  exact ⟨us, rfl, zdL hN cs us vs k1 h1, h2⟩
 | .tup cs, u, v, k, h => by
  simp only [Rep] at h k ⊢
  obtain ⟨us, rfl, h1⟩ := h
  obtain ⟨vs, _, k1⟩ := k
  exact ⟨us, rfl, zdL hN cs us vs k1 h1⟩
 | .fn g cs, u, v, k, h => by
  simp only [Rep] at h k ⊢
  obtain ⟨us, rfl, h1⟩ := h
  obtain ⟨vs, _, k1⟩ := k
  exact ⟨us, rfl, zdL hN cs us vs k1 h1⟩
 | .ptr _, u, v, _, h => by simp only [Rep] at h ⊢; exact h
 | .ref o _, u, v, k, h => by
  simp only [Rep] at h k ⊢
  obtain ⟨_, _, k1, _⟩ := k
  rw [ziy hN k1]; exact h
 | .row o, u, v, k, h => by
  simp only [Rep] at h k ⊢
  rw [ziy hN k.1]; exact h
 | .psl o _ n _, u, v, k, h => by
  simp only [Rep] at h k ⊢
  obtain ⟨a, cap, rfl, h1, h2⟩ := h
  obtain ⟨_, _, _, _, k2⟩ := k
  rcases k2 with k2 | ⟨_, _, k2, _⟩
  ·exact ⟨a, cap, rfl, h1, .inl k2⟩
  ·exact ⟨a, cap, rfl, h1, by rw [ziy hN k2]; exact h2⟩
 | .pslc o _, u, v, k, h => by
  simp only [Rep] at h k ⊢
  obtain ⟨_, _, _, k1, _⟩ := k
  rw [ziy hN k1]; exact h
 | .mp o, u, v, k, h => by
  simp only [Rep] at h k ⊢
  rw [ziy hN k.1]; exact h
 | .mb b x, u, v, k, h => by
  simp only [Rep] at h k ⊢
  exact ⟨fun hb => rep_cut2 hN x u v (k.1 hb) (h.1 hb), h.2⟩
 | .sat _, u, v, _, h => by simp only [Rep] at h ⊢; exact h
 | .any, u, v, _, h => by simp only [Rep]
theorem zdL (hN : ∀ n, N.elem n = true → m n = none) : ∀ (l : List AV) (us vs : List Value), RepL S m w l vs → RepL S' m' w' l us → RepL S' (cutN N m') w' l us
 | [], us, _, _, h => by simpa only [RepL] using h
 | c :: cs, us, vs, k, h => by
  simp only [RepL] at h k ⊢
  obtain ⟨u, us, rfl, h1, h2⟩ := h
  obtain ⟨v, vs, rfl, k1, k2⟩ := k
  exact ⟨u, us, rfl, rep_cut2 hN c u v k1 h1, zdL hN cs us vs k2 h2⟩
end
theorem orep_cut2 (hN : ∀ n, N.elem n = true → m n = none) {B B' : Nat} : ∀ {ob : AObj} {u v : Value}, ORep B S m w ob u → ORep B' S' m' w' ob v → ORep B' S' (cutN N m') w' ob v
 | .box _ cs, u, v, ⟨_, vs, _, _, k, _⟩, ⟨b, us, h1, h2, h3, h4⟩ => ⟨b, us, h1, h2, zdL hN cs us vs k h3, h4⟩
 | .row _ _ _ _, u, v, _, h => h
 | .map _, u, v, _, h => h
 | .rowA _ _ _ _ cs, u, v, ⟨vs, k, _⟩, ⟨us, h1, h2⟩ => ⟨us, zdL hN cs us vs k h1, h2⟩
end
mutual
def AV.fz (h : Nat → Slot) : AV → AV
 | .row o => match h o with
  | .live (.row _ size n cs) => .p (.sl n size cs)
  | _ => .row o
 | .agg cs => .agg (AV.fzL h cs)
 | .tup cs => .tup (AV.fzL h cs)
 | x => x
def AV.fzL (h : Nat → Slot) : List AV → List AV
 | [] => []
 | c :: cs => AV.fz h c :: AV.fzL h cs
end
mutual
def AV.fzOK (h : Nat → Slot) : AV → Bool
 | .p _ => true
 | .row o => match h o with
  | .live (.row _ _ _ _) => true
  | _ => false
 | .agg cs => AV.fzOKL h cs
 | .tup cs => AV.fzOKL h cs
 | _ => false
def AV.fzOKL (h : Nat → Slot) : List AV → Bool
 | [] => true
 | c :: cs => AV.fzOK h c && AV.fzOKL h cs
end
section
variable {w0 : World} {A S T : Nat → Prop} {m : Nat → Option Value} {heap : Nat → Slot} {w : World}
mutual
theorem rep_fz (hm : Mem w0 A S m heap w) (hS : ∀ b, S b → T b) (hT : ∀ o e size n cs v b, heap o = qk e size n cs → m o = some v → blk v = some b → T b) : ∀ (x : AV) (u : Value), x.fzOK heap = true → Rep S m w x u → Rep T (fun _ => none) w (x.fz heap) u
 | .p x, u, _, h => by
  simp only [AV.fz, Rep] at h ⊢
  exact PRep.mono hS (fun _ _ => rfl) _ _ h
 | .row o, u, ok, h => by
  simp only [AV.fzOK] at ok
  simp only [Rep] at h
  cases hq : heap o with
  | live ob =>
   cases ob with
   | row e size n cs =>
    simp only [AV.fz, hq, Rep]
    exact zel hm hS hq (fun v b hv hb => hT _ _ _ _ _ v b hq hv hb) h.1
   | _ => simp [hq] at ok
  | _ => simp [hq] at ok
 | .agg cs, u, ok, h => by
  simp only [AV.fzOK] at ok
  simp only [Rep] at h
  obtain ⟨us, rfl, h1, h2⟩ := h
  simp only [AV.fz, Rep]
  exact ⟨us, rfl, repL_fz hm hS hT cs us ok h1, h2⟩
 | .tup cs, u, ok, h => by
  simp only [AV.fzOK] at ok
  simp only [Rep] at h
  obtain ⟨us, rfl, h1⟩ := h
  simp only [AV.fz, Rep]
  exact ⟨us, rfl, repL_fz hm hS hT cs us ok h1⟩
 | .ptr _, _, ok, _ => by simp [AV.fzOK] at ok
 | .ref _ _, _, ok, _ => by simp [AV.fzOK] at ok
 | .psl _ _ _ _, _, ok, _ => by simp [AV.fzOK] at ok
 | .pslc _ _, _, ok, _ => by simp [AV.fzOK] at ok
 | .fn _ _, _, ok, _ => by simp [AV.fzOK] at ok
 | .mb _ _, _, ok, _ => by simp [AV.fzOK] at ok
 | .sat _, _, ok, _ => by simp [AV.fzOK] at ok
 | .mp _, _, ok, _ => by simp [AV.fzOK] at ok
 | .any, _, ok, _ => by simp [AV.fzOK] at ok
theorem repL_fz (hm : Mem w0 A S m heap w) (hS : ∀ b, S b → T b) (hT : ∀ o e size n cs v b, heap o = qk e size n cs → m o = some v → blk v = some b → T b) : ∀ (l : List AV) (us : List Value), AV.fzOKL heap l = true → RepL S m w l us → RepL T (fun _ => none) w (AV.fzL heap l) us
 | [], us, _, h => by simpa only [AV.fzL, RepL] using h
 | c :: cs, us, ok, h => by
  simp only [AV.fzOKL, qbv] at ok
  simp only [RepL] at h
  obtain ⟨u, us, rfl, h1, h2⟩ := h
  simp only [AV.fzL, RepL]
  exact ⟨u, us, rfl, rep_fz hm hS hT c u ok.1 h1, repL_fz hm hS hT cs us ok.2 h2⟩
end
end
theorem zi7 {P : Program} {f : FuncId} {args : List AV} {res res' : AV} {news : List (Nat × AObj)} (h : Fn P f args res news) (hr : res.fz (zaR news) = res') (ok : res.fzOK (zaR news) = true) : Fn P f args res' [] := by
 intro w A us hA hG hu
 subst hr
 refine (h w A us hA hG hu).mono fun en w' ⟨v, he, S', m', h1, h2⟩ => ⟨v, he, fun b => S' b ∨ ∃ o e size n cs v0, zaR news o = qk e size n cs ∧ m' o = some v0 ∧ blk v0 = some b, fun _ => none, ?_, ?_⟩
 ·exact rep_fz h2 (fun b hb => .inl hb) (fun o e size n cs v b ho hv hb => .inr ⟨o, e, size, n, cs, v, ho, hv, hb⟩) _ _ ok h1
 ·refine ⟨h2.bel, ?_, ?_, fun o _ => rfl, fun o ob ho => qaG, fun o o' ob ob' v v' b ho => qaG, h2.gl⟩
  ·rintro b (hb | ⟨o, e, size, n, cs, v0, h0, h3, h4⟩)
   ·exact h2.sA b hb
   ·obtain ⟨v', k1, k2, _⟩ := h2.live o _ h0
    rw [h3] at k1; cases k1
    exact .inr (k2.lt h4).1
  ·rintro b (hb | ⟨o, e, size, n, cs, v0, h0, h3, h4⟩)
   ·exact h2.sW b hb
   ·obtain ⟨v', k1, k2, _⟩ := h2.live o _ h0
    rw [h3] at k1; cases k1
    exact (k2.lt h4).2
def nzP (x y : AV) : Prop := x = y ∨ ∃ k, x = qm ∧ y = ql 0 k []
def nzL : List AV → List AV → Prop
 | [], [] => True
 | x :: l, y :: r => nzP x y ∧ nzL l r
 | _, _ => False
def nzA (x y : AV) : Prop := nzP x y ∨ ∃ l r, x = .agg l ∧ y = .agg r ∧ nzL l r
def nzT : List AV → List AV → Prop
 | [], [] => True
 | x :: l, y :: r => nzA x y ∧ nzT l r
 | _, _ => False
section
variable {S : Nat → Prop} {m : Nat → Option Value} {w : World}
theorem rep_nzP {x y : AV} {u : Value} (h : nzP x y) (k : Rep S m w x u) : Rep S m w y u := by
 rcases h with rfl | ⟨s, rfl, rfl⟩
 ·exact k
 ·simp only [Rep, PRep] at k ⊢
  obtain ⟨rfl, _⟩ := k
  simp only [PRepL]
  exact jc0
theorem repL_nz : ∀ {l r : List AV} {us : List Value}, nzL l r → RepL S m w l us → RepL S m w r us
 | [], [], _, _, k => k
 | x :: l, y :: r, us, h, k => by
  simp only [RepL] at k ⊢
  obtain ⟨u, us, rfl, k1, k2⟩ := k
  exact ⟨u, us, rfl, rep_nzP h.1 k1, repL_nz h.2 k2⟩
theorem rep_nzA {x y : AV} {u : Value} (h : nzA x y) (k : Rep S m w x u) : Rep S m w y u := by
 rcases h with h | ⟨l, r, rfl, rfl, h⟩
 ·exact rep_nzP h k
 ·simp only [Rep] at k ⊢
  obtain ⟨us, rfl, k1, k2⟩ := k
  exact ⟨us, rfl, repL_nz h k1, k2⟩
theorem repL_nzT : ∀ {l r : List AV} {us : List Value}, nzT l r → RepL S m w l us → RepL S m w r us
 | [], [], _, _, k => k
 | x :: l, y :: r, us, h, k => by
  simp only [RepL] at k ⊢
  obtain ⟨u, us, rfl, k1, k2⟩ := k
  exact ⟨u, us, rfl, rep_nzA h.1 k1, repL_nzT h.2 k2⟩
end
theorem zit {P : Program} {f : FuncId} {args l r : List AV} {news : List (Nat × AObj)} (h : Fn P f args (.tup l) news) (k : nzT l r) : Fn P f args (.tup r) news := by
 intro w A us hA hG hu
 refine (h w A us hA hG hu).mono fun en w' ⟨v, he, S', m', h1, h2⟩ => ⟨v, he, S', m', ?_, h2⟩
 simp only [Rep] at h1 ⊢
 obtain ⟨us, rfl, h1⟩ := h1
 exact ⟨us, rfl, repL_nzT k h1⟩
theorem zjn {P : Program} {o : Oper} {xs : List AV} {rds : List (Nat × Slot)} {n : Nat} {e : TypeId} {size k : Nat} {zs : List PV} (h : AOp P o xs ((n, .un) :: rds) [(n, qk e size k zs)] (.row n)) : AOp P o xs ((n, .un) :: rds) [] (ql k size zs) := by
 intro w0 A S m heap w ev hm hR hrd
 have hn : heap n = .un := hrd (n, .un) qC
 have hNm : ∀ i, [n].elem i = true → m i = none := by
  intro i hi
  have : i = n := qX
  subst this
  exact hm.un _ hn
 have key : ∀ (v : Value) (w' : World), (∃ S' m', Rep S' m' w' (.row n) v ∧ Mem w0 A S' m' (updL heap [(n, qk e size k zs)]) w' ∧ Grow S m w S' m' w') → ∃ S' m', Rep S' m' w' (ql k size zs) v ∧ Mem w0 A S' m' (updL heap []) w' ∧ Grow S m w S' m' w' := by
  rintro v w' ⟨S', m', h1, h2, h3⟩
  have hl : updL heap [(n, qk e size k zs)] n = qk e size k zs := by simp [updL]
  have ho : ∀ i, i ≠ n → updL heap [(n, qk e size k zs)] i = heap i := fun i hi => by simp only [updL, nbeq hi, cond_false]
  simp only [Rep] at h1
  let T : Nat → Prop := fun b => S' b ∨ ∃ v0, m' n = some v0 ∧ blk v0 = some b
  have hST : ∀ b, S' b → T b := fun b hb => .inl hb
  refine ⟨T, cutN [n] m', ?_, ⟨h2.bel, ?_, ?_, ?_, ?_, ?_, h2.gl⟩, ⟨fun b hb => .inl (h3.s b hb), h3.w, fun i u hi => by rw [ziy hNm hi]; exact h3.m i u hi⟩⟩
  ·simp only [Rep]
   exact zel h2 hST hl (fun v b hv hb => .inr ⟨v, hv, hb⟩) h1.1
  ·rintro b (hb | ⟨v0, h5, h4⟩)
   ·exact h2.sA b hb
   ·obtain ⟨v', k1, k2, _⟩ := h2.live n _ hl
    rw [h5] at k1; cases k1
    exact .inr (k2.lt h4).1
  ·rintro b (hb | ⟨v0, h5, h4⟩)
   ·exact h2.sW b hb
   ·obtain ⟨v', k1, k2, _⟩ := h2.live n _ hl
    rw [h5] at k1; cases k1
    exact (k2.lt h4).2
  ·intro i hi
   by_cases e' : i = n
   ·subst e'; simp [cutN]
   ·have : (!([n].elem i)) = true := by simp [e']
    rw [cutN_f this]
    exact h2.un i (by rw [ho i e']; exact hi)
  ·intro i ob hi
   have hi0 : heap i = .live ob := hi
   have e' : i ≠ n := fun e' => by rw [e', hn] at hi0; cases hi0
   have hf : (!([n].elem i)) = true := by simp [e']
   obtain ⟨v1, k1, k2, k3⟩ := h2.live i ob (by rw [ho i e']; exact hi0)
   obtain ⟨v0, _, j2, _⟩ := hm.live i ob hi0
   refine ⟨v1, by rw [cutN_f hf]; exact k1, orep_cut2 hNm j2 (ORep.mono ⟨hST, fun _ _ => rfl, fun _ _ h => h⟩ k2 (fun _ _ => rfl)), fun b hb => ?_⟩
   rintro (hs | ⟨v2, h5, h4⟩)
   ·exact k3 b hb hs
   ·exact e' (h2.inj i n ob _ v1 v2 b (by rw [ho i e']; exact hi0) hl k1 h5 hb h4)
  ·intro i j ob ob' u u' b hi hj hu hu' hb hb'
   have hi0 : heap i = .live ob := hi
   have hj0 : heap j = .live ob' := hj
   have ei : i ≠ n := fun e' => by rw [e', hn] at hi0; cases hi0
   have ej : j ≠ n := fun e' => by rw [e', hn] at hj0; cases hj0
   rw [cutN_f (by simp [ei])] at hu
   rw [cutN_f (by simp [ej])] at hu'
   exact h2.inj i j ob ob' u u' b (by rw [ho i ei]; exact hi0) (by rw [ho j ej]; exact hj0) hu hu' hb hb'
 have h0 := h w0 A S m heap w ev hm hR hrd
 unfold Out at h0 ⊢
 generalize (execOp ev o).run P w = res at h0 ⊢
 cases res with
 | halt x w' => exact h0
 | ok nx w' =>
  cases nx with
  | value v => exact key v w' h0
  | skip => exact key undef w' h0
  | enter f args => exact h0.mono fun e w'' ⟨v, he, hk⟩ => ⟨v, he, key v w'' hk⟩
  | _ => exact h0
def moV (d : DM) (S L : AV) : List AV := [qc d.c.key, qd d.c.port, ql d.c.ps.length 5 (d.c.ps.flatMap PE.pv), .p (ndsV d.tree), S, qf d.sg.lv, .p (sesV d.sg.rest), qc d.sg.c.key, qd d.sg.c.port, .p d.sg.c.row, qc d.sg.at_, qd d.sg.err, qd d.gen, qd d.now, qd d.last, L]
def moD (d : DM) (S : AV) : List AV := (moV d S .any).take 15
def zdmC : List AV := dmC ⟨#[]⟩ 0 (.v (.slice none 0 0)) (.v (.slice none 0 0)) (.v (.slice none 0 0)) false (.v (.slice none 0 0)) ⟨#[]⟩ 0 (.v (.slice none 0 0)) ⟨#[]⟩ 0 0 0 0
def dm0 : DM := ⟨⟨⟨#[]⟩, 0, []⟩, [], [], ⟨false, [], ⟨⟨#[]⟩, 0, []⟩, ⟨#[]⟩, 0⟩, 0, 0, 0⟩
theorem zdm_nz : nzL zdmC dm0.cells :=
 ⟨.inl rfl, .inl rfl, .inr ⟨5, rfl, rfl⟩, .inr ⟨4, rfl, rfl⟩, .inr ⟨41, rfl, rfl⟩, .inl rfl, .inr ⟨5, rfl, rfl⟩, .inl rfl, .inl rfl, .inr ⟨5, rfl, rfl⟩, .inl rfl, .inl rfl, .inl rfl, .inl rfl, .inl rfl, trivial⟩
theorem cf0_ok : CF.OK ⟨⟨#[]⟩, 0, []⟩ := ⟨qC, fun p h => by cases h⟩
theorem zhT : dm0.OK := ⟨cf0_ok, (fun x h => by cases h), by simp [dm0], (fun x h => by cases h), by simp [dm0], ⟨(fun x h => by cases h), by simp [dm0], cf0_ok, qE, qE⟩⟩
open Tryz
theorem begin_w (k : ByteArray) (p : Int) (P T S : PV) (lv : Bool) (R : PV) (sk : ByteArray) (sp : Int) (Q : PV) (a : ByteArray) (e g w l : Int) (s : ByteArray) (E : Int) (hC : Fn prog 14 [.agg (dmC k p P T S lv R sk sp Q a e g w l)] (qd E) []) (hK : Fn prog 18 [.agg (dmC k p P T S lv R sk sp Q a e g w l)] (.agg (dmC k p P T S lv R sk sp Q a e g w l)) []) (lv2 : Bool) (R2 : PV) (sk2 : ByteArray) (sp2 : Int) (Q2 : PV) (a2 : ByteArray) (e2 : Int) (n2 E2 : Int)
 (hB : Fn prog 28 [.agg (cfV k p P), qc s] (.tup [.agg (sgV lv2 R2 sk2 sp2 Q2 a2 e2), qd n2, qd E2]) []) :
 Fn prog 8 [.agg (dmC k p P T S lv R sk sp Q a e g w l), qc s] (if E ≠ 0 then .tup [.agg zdmC, qd 0, qd E] else if lv = true then .tup [.agg zdmC, qd 0, qd 6] else if E2 ≠ 0 then .tup [.agg zdmC, qd n2, qd E2] else .tup [.agg (dmC k p P T S lv2 R2 sk2 sp2 Q2 a2 e2 g w l), qd 0, qd 0]) [] := by
 exact jaX
theorem rbegin_w (k : ByteArray) (p : Int) (P T S : PV) (lv : Bool) (R : PV) (sk : ByteArray) (sp : Int) (Q : PV) (a : ByteArray) (e g w l : Int) (s : ByteArray) (E : Int) (hC : Fn prog 19 [.agg (dmC k p P T S lv R sk sp Q a e g w l)] (qd E) []) (hK : Fn prog 31 [.agg (dmC k p P T S lv R sk sp Q a e g w l)] (.agg (dmC k p P T S lv R sk sp Q a e g w l)) []) (lv2 : Bool) (R2 : PV) (sk2 : ByteArray) (sp2 : Int) (Q2 : PV) (a2 : ByteArray) (e2 : Int) (n2 E2 : Int)
 (hB : Fn prog 30 [.agg (cfV k p P), qc s] (.tup [.agg (sgV lv2 R2 sk2 sp2 Q2 a2 e2), qd n2, qd E2]) []) :
 Fn prog 11 [.agg (dmC k p P T S lv R sk sp Q a e g w l), qc s] (if E ≠ 0 then .tup [.agg zdmC, qd 0, qd E] else if lv = true then .tup [.agg zdmC, qd 0, qd 6] else if E2 ≠ 0 then .tup [.agg zdmC, qd n2, qd E2] else .tup [.agg (dmC k p P T S lv2 R2 sk2 sp2 Q2 a2 e2 g w l), qd 0, qd 0]) [] := by
 exact jaX
theorem step_w (k : ByteArray) (p : Int) (P T S : PV) (lv : Bool) (R : PV) (sk : ByteArray) (sp : Int) (Q : PV) (a : ByteArray) (e g w l : Int) (n : Int) (E : Int) (hC : Fn prog 14 [.agg (dmC k p P T S lv R sk sp Q a e g w l)] (qd E) []) (hK : Fn prog 18 [.agg (dmC k p P T S lv R sk sp Q a e g w l)] (.agg (dmC k p P T S lv R sk sp Q a e g w l)) []) (lv2 : Bool) (R2 : PV) (sk2 : ByteArray) (sp2 : Int) (Q2 : PV) (a2 : ByteArray) (e2 : Int) (E2 : Int)
 (hB : Fn prog 29 [.agg (sgV lv R sk sp Q a e), qd n] (.tup [.agg (sgV lv2 R2 sk2 sp2 Q2 a2 e2), qd E2]) []) :
 Fn prog 9 [.agg (dmC k p P T S lv R sk sp Q a e g w l), qd n] (if E ≠ 0 then .tup [.agg zdmC, qd E] else if E2 ≠ 0 then .tup [.agg zdmC, qd E2] else .tup [.agg (dmC k p P T S lv2 R2 sk2 sp2 Q2 a2 e2 g w l), qd 0]) [] := by
 exact jbb
theorem rstep_w (k : ByteArray) (p : Int) (P T S : PV) (lv : Bool) (R : PV) (sk : ByteArray) (sp : Int) (Q : PV) (a : ByteArray) (e g w l : Int) (n : Int) (E : Int) (hC : Fn prog 19 [.agg (dmC k p P T S lv R sk sp Q a e g w l)] (qd E) []) (hK : Fn prog 31 [.agg (dmC k p P T S lv R sk sp Q a e g w l)] (.agg (dmC k p P T S lv R sk sp Q a e g w l)) []) (lv2 : Bool) (R2 : PV) (sk2 : ByteArray) (sp2 : Int) (Q2 : PV) (a2 : ByteArray) (e2 : Int) (E2 : Int)
 (hB : Fn prog 32 [.agg (sgV lv R sk sp Q a e), qd n] (.tup [.agg (sgV lv2 R2 sk2 sp2 Q2 a2 e2), qd E2]) []) :
 Fn prog 12 [.agg (dmC k p P T S lv R sk sp Q a e g w l), qd n] (if E ≠ 0 then .tup [.agg zdmC, qd E] else if E2 ≠ 0 then .tup [.agg zdmC, qd E2] else .tup [.agg (dmC k p P T S lv2 R2 sk2 sp2 Q2 a2 e2 g w l), qd 0]) [] := by
 exact jbb
theorem disc_w (k : ByteArray) (p : Int) (P T S : PV) (lv : Bool) (R : PV) (sk : ByteArray) (sp : Int) (Q : PV) (a : ByteArray) (e g w l : Int) (E : Int) (hC : Fn prog 14 [.agg (dmC k p P T S lv R sk sp Q a e g w l)] (qd E) []) (hK : Fn prog 18 [.agg (dmC k p P T S lv R sk sp Q a e g w l)] (.agg (dmC k p P T S lv R sk sp Q a e g w l)) []) :
 Fn prog 10 [.agg (dmC k p P T S lv R sk sp Q a e g w l)] (if E ≠ 0 then .tup [.agg zdmC, qd E] else if lv = false then .tup [.agg zdmC, qd 13] else .tup [.agg (dmC k p P T S false (.v (.slice none 0 0)) ⟨#[]⟩ 0 (.v (.slice none 0 0)) ⟨#[]⟩ 0 g w l), qd 0]) [] := by
 exact jbi
theorem rdisc_w (k : ByteArray) (p : Int) (P T S : PV) (lv : Bool) (R : PV) (sk : ByteArray) (sp : Int) (Q : PV) (a : ByteArray) (e g w l : Int) (E : Int) (hC : Fn prog 19 [.agg (dmC k p P T S lv R sk sp Q a e g w l)] (qd E) []) (hK : Fn prog 31 [.agg (dmC k p P T S lv R sk sp Q a e g w l)] (.agg (dmC k p P T S lv R sk sp Q a e g w l)) []) :
 Fn prog 13 [.agg (dmC k p P T S lv R sk sp Q a e g w l)] (if E ≠ 0 then .tup [.agg zdmC, qd E] else if lv = false then .tup [.agg zdmC, qd 13] else .tup [.agg (dmC k p P T S false (.v (.slice none 0 0)) ⟨#[]⟩ 0 (.v (.slice none 0 0)) ⟨#[]⟩ 0 g w l), qd 0]) [] := by
 exact jbi
theorem zcA {a b c : KY} : a.vals ++ b.vals ++ c.vals = KY0.vals ++ KY0.vals ++ KY0.vals ↔ (a = KY0 ∧ b = KY0 ∧ c = KY0) := by
 constructor
 ·intro h3
  obtain ⟨h6, h7⟩ := List.append_inj h3 rfl
  obtain ⟨h8, h9⟩ := List.append_inj h6 rfl
  exact ⟨KY.eqL_iff.1 (zaN.2 h8), KY.eqL_iff.1 (zaN.2 h9), KY.eqL_iff.1 (zaN.2 h7)⟩
 ·rintro ⟨rfl, rfl, rfl⟩
  rfl
def er3 (a b c : Int) (i : Nat) : Int := if i = 0 then a else if i = 1 then b else c
theorem er3_at (a b c : Int) (i : Nat) (h : i < 3) : ([qd a, qd b, qd c] : List AV)[i * 1]? = some (qd (er3 a b c i)) := by
 exact jdm
theorem zhS (d : DM) (ok : d.OK) : Fn prog 14 [.agg d.cells] (qd (dmE d)) [] := by
 have hC := zbu d.c ok.c
 have hS := tabCheck_s d.ps (fun s hs => (ok.ps s hs).1) ok.psN
 have hG := sgCheck_s d.sg ok.sg
 have hM := tmost_s d.ps ok.psN
 have hT := fun h0 => ctree_s d.c ok.c h0
 have hK := keys_d d.ps d.c.ps ok.psN ok.c.len
 have hQ := fun h : (tOf (zax d.c.ps d.c.ps.length)).list.length ≤ 4611686018427387904 => eqNodes_d (tOf (zax d.c.ps d.c.ps.length)).list d.tree h (by have := ok.treeN; omega)
 have hfew : cfE d.c = 0 → (tOf (zax d.c.ps d.c.ps.length)).list.length ≤ 4611686018427387904 := fun h0 => by
  exact jcs
 have hn := ok.psN
 have hvT := fun h : Unit => zew (tOf (zax d.c.ps d.c.ps.length)).list
 obtain ⟨E, hE⟩ : ∃ E, dmE d = E := ⟨_, rfl⟩
 rw [hE]
 unfold dmE rangeD goodD at hE
 generalize cfE d.c = e0 at *
 generalize stsE d.ps = e1' at *
 generalize sgE d.sg = e2 at *
 generalize mostD d.ps = mo at *
 clear ok
 obtain ⟨⟨k1, p1, q1⟩, t1, s1, ⟨v1, r1, ⟨sk1, sp1, sq1⟩, a1, e1⟩, g1, w1, l1'⟩ := d
 dsimp only at hC hS hG hM hT hK hQ hfew hn hE hvT
 generalize (tOf (zax q1 q1.length)).list = TL at *
 change Fn prog _ [.agg [qc k1, qd p1, ql q1.length 5 (q1.flatMap PE.pv)]] _ _ at hC
 change ∀ h0, Fn prog _ [.agg [qc k1, qd p1, ql q1.length 5 (q1.flatMap PE.pv)]] _ _ at hT
 change Fn prog _ [.agg (sgV v1 (sesV r1) sk1 sp1 (CF.row ⟨sk1, sp1, sq1⟩) a1 e1)] _ _ at hG
 change ∀ h, Fn prog _ [ql TL.length 4 (nds TL), .p (ndsV t1)] _ _ at hQ
 show Fn prog _ [.agg (dmC k1 p1 (.sl q1.length 5 (q1.flatMap PE.pv)) (ndsV t1) (.sl s1.length 41 (s1.flatMap ST.pv)) v1 (sesV r1) sk1 sp1 (CF.row ⟨sk1, sp1, sq1⟩) a1 e1 g1 w1 l1')] _ _
 generalize CF.row ⟨sk1, sp1, sq1⟩ = SQ1 at *
 generalize sesV r1 = R1 at *
 have hv := hvT ()
 clear hvT
 have hcT : (nds TL).length = TL.length * 4 := zev TL
 have heqB : eqB TL t1 = true ↔ TL = t1 := zgy
 generalize hkb : zgX s1 q1 = kb at *
 generalize hqb : eqB TL t1 = qb at *
 generalize ndsV t1 = T1 at *
 generalize q1.flatMap PE.pv = QL at *
 generalize q1.length = qn at *
 generalize nds TL = TN at *
 generalize TL.length = tn at *
 refine fnI fun w0 A => ?_
 refine jeT ?_
 refine G [2] ?_
 refine cK hS ?_
 refine G [2] ?_
 refine cK hG ?_
 refine zaa (xs := [qd e0, qd e1', qd e2]) (zeR (es := [qd e0, qd e1', qd e2]) underlying76 zr76 rfl sz28 qr) qP rfl ?_
 refine G [3] ?_
 refine zac (fun m st => ∃ i : Nat, m + i = 3 ∧ (∀ j, j < i → er3 e0 e1' e2 j = 0) ∧ st = St.of [(1, .ref 1 0), (19, .agg [qd e0, qd e1', qd e2]), (20, qd i)] [(1, .box 32 (dmC k1 p1 (.sl qn 5 QL) T1 (.sl s1.length 41 (s1.flatMap ST.pv)) v1 R1 sk1 sp1 SQ1 a1 e1 g1 w1 l1'))]) 3 ?_ ?_
 ·exact jaA
 rintro m st ⟨i, hi, hf, rfl⟩
 refine G [5] ?_
 refine cX ?_ ?_ <;> intro h
 ·have hlt : i < 3 := qu
  clear h
  have hix := er3_at e0 e1' e2 i hlt
  have hbad : er3 e0 e1' e2 i ≠ 0 → E = er3 e0 e1' e2 i := by
   intro hne
   match i, hlt with
   | 0, _ => rw [if_pos (show e0 ≠ 0 from hne)] at hE; exact hE.symm
   | 1, _ =>
    have z0 : e0 = 0 := hf 0 qp
    rw [if_neg (by rw [z0]; simp), if_pos (show e1' ≠ 0 from hne)] at hE; exact hE.symm
   | 2, _ =>
    have z0 : e0 = 0 := hf 0 qp
    have z1 : e1' = 0 := hf 1 qp
    rw [if_neg (by rw [z0]; simp), if_neg (by rw [z1]; simp), if_pos (show e2 ≠ 0 from hne)] at hE; exact hE.symm
  generalize hee : er3 e0 e1' e2 i = ee at *
  refine G [5] ?_
  refine zaa (zc0 underlying76 sz28 underlying28 rfl qp qp (show _ = some (qd ee) by rw [qbx]; exact hix)) rfl rfl ?_
  refine jdv ?_
  refine cX ?_ ?_ <;> intro h
  ·have h7 : ee ≠ 0 := qz
   rw [hbad h7]
   exact jaH
  have h7 : ee = 0 := qz
  clear h
  refine jdD ?_
  refine ⟨m - 1, qp, _, zae id _ _ ?_ ?_ rfl, i + 1, qp, fun j hj => ?_, rfl⟩
  ·exact jap
  ·exact ja3
  ·by_cases e : j = i
   ·rw [e, hee]; exact h7
   ·exact hf j qp
 have hge : i = 3 := qu
 clear h
 subst hge
 have z0 : e0 = 0 := hf 0 qp
 have z1 : e1' = 0 := hf 1 qp
 have z2 : e2 = 0 := hf 2 qp
 rw [if_neg (by rw [z0]; simp), if_neg (by rw [z1]; simp), if_neg (by rw [z2]; simp)] at hE
 have hT := hT z0
 have hQ := hQ (hfew z0)
 clear hf hfew hC hS hG z0 z1 z2
 refine G [11, 2, 4, 2, 4, 2, 5] ?_
 refine mb2 _ rfl rfl (fun _ => zbc func36 rfl rfl (hM) qw rfl) (fun _ => trivial) ?_
 refine G [1, 2, 4, 2, 1, 9, 0] ?_
 refine cX ?_ ?_ <;> intro h
 ·have h1 : g1 < 0 ∨ 1099511627776 < g1 ∨ w1 < 0 ∨ 1099511627776 < w1 ∨ l1' < mo ∨ 4294967235 < l1' := by
   simp at h
   simp only [or_assoc] at h
   exact h
  exact jcX
 have h1 : ¬ (g1 < 0 ∨ 1099511627776 < g1 ∨ w1 < 0 ∨ 1099511627776 < w1 ∨ l1' < mo ∨ 4294967235 < l1') := by
  simp at h
  omega
 clear h
 rw [if_neg h1] at hE
 refine G [5] ?_
 refine cK hT ?_
 refine G [13] ?_
 refine cK hK ?_
 refine G [2] ?_
 by_cases hq : qb = true ∧ kb = true
 rotate_left
 ·have hng : ¬ ((TL = t1 ∧ kb = true) ∧ ∀ s ∈ s1, okSt k1 w1 s) := fun h => hq ⟨heqB.2 h.1.1, h.1.2⟩
  rw [if_neg hng] at hE
  subst hE
  refine G [6] ?_
  refine cV hQ ?_
  refine G [4, 2, 1, 9, 0] ?_
  refine cX ?_ ?_ <;> intro h
  ·exact ja4
  ·exact absurd qz hq
 obtain ⟨hq1, hq2⟩ := hq
 subst hq1 hq2
 refine G [6] ?_
 refine cV hQ ?_
 refine jdI ?_
 refine cX ?_ ?_ <;> intro h
 ·cases h
 refine G [10] ?_
 refine zac (fun m st => ∃ i : Nat, m + i = s1.length ∧ (∀ j, j < i → ∀ s, s1[j]? = some s → okSt k1 w1 s) ∧ st = St.of [(1, .ref 1 0), (80, ql s1.length 41 (s1.flatMap ST.pv)), (81, qd s1.length), (82, qd i)] [(1, .box 32 (dmC k1 p1 (.sl qn 5 QL) T1 (.sl s1.length 41 (s1.flatMap ST.pv)) v1 R1 sk1 sp1 SQ1 a1 e1 g1 w1 l1'))]) s1.length ?_ ?_
 ·exact jaA
 rintro m st ⟨i, hi, hf, rfl⟩
 refine G [5] ?_
 refine cX ?_ ?_ <;> intro h
 ·have hlt : i < s1.length := qu
  clear h
  obtain ⟨x, hx⟩ := qo hlt
  have hch := zaj (f := ST.pv) (k := 41) (fun _ => rfl) hx
  have hle := zai (f := ST.pv) (k := 41) (fun _ => rfl) hlt
  have hmem := qbh hx
  have hbad : ¬ okSt k1 w1 x → E = 14 := fun hno => by
   rw [if_neg (fun h => hno (h.2 x hmem))] at hE
   exact hE.symm
  generalize s1.flatMap ST.pv = L at *
  obtain ⟨key, ep, a, b, c, ⟨lv, mine, nc, hb, hs⟩, q⟩ := x
  refine G [8] ?_
  refine je4 ?_
  by_cases hk : k1 = ⟨#[]⟩
  ·by_cases hz : a = KY0 ∧ b = KY0 ∧ c = KY0
   ·cases lv with
    | true =>
     rw [hbad (fun h => h (.inl ⟨hk, .inr rfl⟩))]
     refine jeZ ?_
     refine jdx ?_
     refine jeH ?_
     refine jdT ?_
     refine G [21, 9, 0] ?_
     exact yE
    | false =>
     by_cases ht : w1 < hs
     ·rw [hbad (fun h => h (.inr ht))]
      refine jeZ ?_
      refine jdx ?_
      refine jeH ?_
      refine jdT ?_
      refine G [12, 4, 8, 9, 0] ?_
      exact yE
     ·have HOK : okSt k1 w1 ⟨key, ep, a, b, c, ⟨false, mine, nc, hb, hs⟩, q⟩ := by
       rintro (⟨_, h | h⟩ | h)
       ·exact h hz
       ·cases h
       ·exact ht h
      refine jeZ ?_
      refine jdx ?_
      refine jeH ?_
      refine jdT ?_
      refine G [12, 3, 8, 9, 0] ?_
      exact jbQ
   ·rw [hbad (fun h => h (.inl ⟨hk, .inl hz⟩))]
    refine jeZ ?_
    refine jdx ?_
    refine jeH ?_
    refine zaa (zak U55 (xs := a.vals ++ b.vals ++ c.vals) (ys := KY0.vals ++ KY0.vals ++ KY0.vals) rfl rfl qr qr qr (c := true) (by rw [zdS.2 (fun e => hz (zcA.1 e))]; rfl)) rfl rfl ?_
    refine G [21, 9, 0] ?_
    exact yE
  ·by_cases ht : w1 < hs
   ·rw [hbad (fun h => h (.inr ht))]
    refine G [5] ?_
    refine jeJ ?_
    refine G [17, 4, 8, 9, 0] ?_
    exact yE
   ·have HOK : okSt k1 w1 ⟨key, ep, a, b, c, ⟨lv, mine, nc, hb, hs⟩, q⟩ := by
     rintro (⟨h, _⟩ | h)
     ·exact hk h
     ·exact ht h
    refine G [5] ?_
    refine jeJ ?_
    refine G [17, 3, 8, 9, 0] ?_
    exact jbQ
 have hge : i = s1.length := qu
 clear h
 subst hge
 have hall : ∀ s ∈ s1, okSt k1 w1 s := fun s hs => by
  obtain ⟨j, hj, rfl⟩ := List.getElem_of_mem hs
  exact hf j hj _ (List.getElem?_eq_getElem hj)
 rw [if_pos ⟨⟨heqB.1 rfl, rfl⟩, hall⟩] at hE
 subst hE
 refine jdI ?_
 exact yE
theorem refDm_s (d : DM) (ok : d.OK) : Fn prog 19 [.agg d.cells] (qd (dmE d)) [] := by
 have hC := zaP d.c ok.c
 have hS := refStates_s d.ps (fun s hs => (ok.ps s hs).1) ok.psN
 have hG := zik d.sg ok.sg
 have hM := rmost_s d.ps ok.psN
 have hT := fun h0 => rtree_s d.c ok.c h0
 have hfew : cfE d.c = 0 → (tOf (zax d.c.ps d.c.ps.length)).list.length ≤ 4611686018427387904 := fun h0 => by
  exact jcs
 have hn := ok.psN
 have hnq := ok.c.len
 have hnt : d.tree.length ≤ 4611686018427387904 := by have := ok.treeN; omega
 obtain ⟨E, hE⟩ : ∃ E, dmE d = E := ⟨_, rfl⟩
 rw [hE]
 unfold dmE rangeD goodD at hE
 generalize cfE d.c = e0 at *
 generalize stsE d.ps = e1' at *
 generalize sgE d.sg = e2 at *
 generalize mostD d.ps = mo at *
 clear ok
 obtain ⟨⟨k1, p1, q1⟩, t1, s1, ⟨v1, r1, ⟨sk1, sp1, sq1⟩, a1, e1⟩, g1, w1, l1'⟩ := d
 dsimp only at hC hS hG hM hT hfew hn hnq hnt hE
 generalize (tOf (zax q1 q1.length)).list = TL at *
 change Fn prog _ [.agg [qc k1, qd p1, ql q1.length 5 (q1.flatMap PE.pv)]] _ _ at hC
 change ∀ h0, Fn prog _ [.agg [qc k1, qd p1, ql q1.length 5 (q1.flatMap PE.pv)]] _ _ at hT
 change Fn prog _ [.agg (sgV v1 (sesV r1) sk1 sp1 (CF.row ⟨sk1, sp1, sq1⟩) a1 e1)] _ _ at hG
 show Fn prog _ [.agg (dmC k1 p1 (.sl q1.length 5 (q1.flatMap PE.pv)) (.sl t1.length 4 (nds t1)) (.sl s1.length 41 (s1.flatMap ST.pv)) v1 (sesV r1) sk1 sp1 (CF.row ⟨sk1, sp1, sq1⟩) a1 e1 g1 w1 l1')] _ _
 generalize CF.row ⟨sk1, sp1, sq1⟩ = SQ1 at *
 generalize sesV r1 = R1 at *
 have hchT := fun (i : Nat) (x : ND) (h : TL[i]? = some x) => zaj (f := ND.pv) (k := 4) (fun _ => rfl) h
 have hleT := fun (i : Nat) (h : i < TL.length) => zai (f := ND.pv) (k := 4) (fun _ => rfl) h
 have hcht := fun (i : Nat) (x : ND) (h : t1[i]? = some x) => zaj (f := ND.pv) (k := 4) (fun _ => rfl) h
 have hlet := fun (i : Nat) (h : i < t1.length) => zai (f := ND.pv) (k := 4) (fun _ => rfl) h
 have hchS := fun (i : Nat) (x : ST) (h : s1[i]? = some x) => zaj (f := ST.pv) (k := 41) (fun _ => rfl) h
 have hleS := fun (i : Nat) (h : i < s1.length) => zai (f := ST.pv) (k := 41) (fun _ => rfl) h
 have hchQ := fun (i : Nat) (x : PE) (h : q1[i]? = some x) => zaj (f := PE.pv) (k := 5) (fun _ => rfl) h
 have hleQ := fun (i : Nat) (h : i < q1.length) => zai (f := PE.pv) (k := 5) (fun _ => rfl) h
 change ∀ (i : Nat) (x : ND), TL[i]? = some x → ((nds TL).drop (i * 4)).take 4 = x.pv at hchT
 change ∀ (i : Nat), i < TL.length → i * 4 + 4 ≤ (nds TL).length at hleT
 change ∀ (i : Nat) (x : ND), t1[i]? = some x → ((nds t1).drop (i * 4)).take 4 = x.pv at hcht
 change ∀ (i : Nat), i < t1.length → i * 4 + 4 ≤ (nds t1).length at hlet
 generalize nds TL = TN at *
 generalize nds t1 = T1 at *
 generalize s1.flatMap ST.pv = L at *
 generalize q1.flatMap PE.pv = QL at *
 refine fnI fun w0 A => ?_
 refine jeT ?_
 refine jdv ?_
 refine cX ?_ ?_ <;> intro h
 ·have h1 : e0 ≠ 0 := qz
  exact jbV
 have z0 : e0 = 0 := qz
 clear h
 rw [if_neg (by rw [z0]; simp)] at hE
 refine G [6] ?_
 refine cK hS ?_
 refine jdv ?_
 refine cX ?_ ?_ <;> intro h
 ·have h1 : e1' ≠ 0 := qz
  exact jbV
 have z1 : e1' = 0 := qz
 clear h
 rw [if_neg (by rw [z1]; simp)] at hE
 refine G [6] ?_
 refine cK hG ?_
 refine jdv ?_
 refine cX ?_ ?_ <;> intro h
 ·have h1 : e2 ≠ 0 := qz
  exact jbV
 have z2 : e2 = 0 := qz
 clear h
 rw [if_neg (by rw [z2]; simp)] at hE
 have hT := hT z0
 have hfew := hfew z0
 clear hC hS hG z0 z1 z2
 refine G [11, 2, 4, 2, 4, 2, 5] ?_
 refine mb2 _ rfl rfl (fun _ => zbc func49 rfl rfl (hM) qw rfl) (fun _ => trivial) ?_
 refine G [1, 2, 4, 2, 1, 9, 0] ?_
 refine cX ?_ ?_ <;> intro h
 ·have h1 : g1 < 0 ∨ 1099511627776 < g1 ∨ w1 < 0 ∨ 1099511627776 < w1 ∨ l1' < mo ∨ 4294967235 < l1' := by
   simp at h
   simp only [or_assoc] at h
   omega
  exact jcX
 have h1 : ¬ (g1 < 0 ∨ 1099511627776 < g1 ∨ w1 < 0 ∨ 1099511627776 < w1 ∨ l1' < mo ∨ 4294967235 < l1') := by
  simp at h
  omega
 clear h
 rw [if_neg h1] at hE
 clear h1
 refine G [5] ?_
 refine cK hT ?_
 refine G [6] ?_
 refine za7 (zcL (cs := TN) 64 rfl) ?_
 clear hT hM
 obtain ⟨g0, hg0⟩ : ∃ g0 : Bool, decide (TL.length = t1.length ∧ s1.length = q1.length) = g0 := ⟨_, rfl⟩
 refine zal (zdp (St.of [(1, .ref 1 0), (6, ql TL.length 4 TN), (8, qf g0)] [(1, .box 32 (dmC k1 p1 (.sl q1.length 5 QL) (.sl t1.length 4 T1) (.sl s1.length 41 L) v1 R1 sk1 sp1 SQ1 a1 e1 g1 w1 l1'))]) ?_ ?_)
 ·by_cases h1 : TL.length = t1.length
  ·by_cases h2 : s1.length = q1.length
   ·have : g0 = true := by rw [← hg0]; exact decide_eq_true ⟨h1, h2⟩
    subst this
    skip
    refine G [6, 4, 8, 4, 3, 9, 0] ?_
    exact jaw
   ·have : g0 = false := by rw [← hg0]; exact decide_eq_false fun h => h2 h.2
    subst this
    skip
    refine G [6, 4, 8, 3, 3, 9, 0] ?_
    exact jaw
  ·have : g0 = false := by rw [← hg0]; exact decide_eq_false fun h => h1 h.1
   subst this
   skip
   refine G [6, 3, 12, 9, 0] ?_
   exact jaw
 have hg0T : g0 = true → TL.length = t1.length ∧ s1.length = q1.length := fun h => by rw [h] at hg0; exact of_decide_eq_true hg0
 have hg0F : g0 = false → ¬ (TL.length = t1.length ∧ s1.length = q1.length) := fun h => by rw [h] at hg0; exact of_decide_eq_false hg0
 clear hg0
 obtain ⟨gA, hgA⟩ : ∃ gA : Bool, (g0 && eqB TL t1) = gA := ⟨_, rfl⟩
 refine G [6] ?_
 refine zeC (St.of [(1, .ref 1 0), (8, qf gA)] [(1, .box 32 (dmC k1 p1 (.sl q1.length 5 QL) (.sl t1.length 4 T1) (.sl s1.length 41 L) v1 R1 sk1 sp1 SQ1 a1 e1 g1 w1 l1'))]) ?_ ?_
 ·refine zac (fun m st => ∃ (i : Nat) (g : Bool), m + i = TL.length ∧ (g = true → g0 = true ∧ ∀ j, j < i → TL[j]? = t1[j]?) ∧ (g = false → gA = false) ∧ st = St.of [(1, .ref 1 0), (6, ql TL.length 4 TN), (8, qf g), (9, qd i)] [(1, .box 32 (dmC k1 p1 (.sl q1.length 5 QL) (.sl t1.length 4 T1) (.sl s1.length 41 L) v1 R1 sk1 sp1 SQ1 a1 e1 g1 w1 l1'))]) TL.length ?_ ?_
  ·refine ⟨_, zae id _ _ ?_ ?_ rfl, 0, g0, qp, fun h => ⟨h, fun j hj => by omega⟩, fun h => ?_, rfl⟩
   ·exact jap
   ·exact ja3
   ·rw [← hgA, h]; rfl
  rintro m st ⟨i, g, hi, hgt, hgf, rfl⟩
  cases g with
  | false =>
   have hA := hgf rfl
   subst hA
   refine G [13, 9, 0] ?_
   exact jaw
  | true =>
   obtain ⟨hg1, hpre⟩ := hgt rfl
   obtain ⟨hlt', hls⟩ := hg0T hg1
   by_cases hlt : i < TL.length
   ·obtain ⟨x, hx⟩ := qo hlt
    obtain ⟨y, hy⟩ : ∃ y, t1[i]? = some y := ⟨t1[i]'qp, List.getElem?_eq_getElem qp⟩
    have hch := hchT i x hx
    have hle := hleT i hlt
    have hch2 := hcht i y hy
    have hle2 := hlet i qp
    have hbad := zhr hx hy
    have hxy : x = y → TL[i]? = t1[i]? := fun e => by rw [hx, hy, e]
    obtain ⟨xa, xn, xo, xs⟩ := x
    obtain ⟨ya, yn, yo, ys⟩ := y
    refine G [8, 4, 3] ?_
    by_cases he : (⟨xa, xn, xo, xs⟩ : ND) = ⟨ya, yn, yo, ys⟩
    ·refine G [13] ?_
     refine zaa (zbW U84 (xs := [.int .u32 xa, .int .i64 xn, .string xo, .int .i64 xs]) (ys := [.int .u32 ya, .int .i64 yn, .string yo, .int .i64 ys]) rfl rfl qr qr qr (c := true) (zaN.2 (by simp at he; simp [he]))) rfl rfl ?_
     refine jdv ?_
     refine ⟨m - 1, qp, _, zae id _ _ ?_ ?_ rfl, i + 1, true, qp, fun _ => ⟨hg1, fun j hj => ?_⟩, fun h => (by cases h), rfl⟩
     ·exact jap
     ·exact ja3
     ·by_cases e : j = i
      ·rw [e]; exact hxy he
      ·exact hpre j qp
    ·refine G [13] ?_
     refine zaa (zbW U84 (xs := [.int .u32 xa, .int .i64 xn, .string xo, .int .i64 xs]) (ys := [.int .u32 ya, .int .i64 yn, .string yo, .int .i64 ys]) rfl rfl qr qr qr (c := false) (zdS.2 (fun e => he (by simp at e; simp [e])))) rfl rfl ?_
     refine jdv ?_
     refine ⟨m - 1, qp, _, zae id _ _ ?_ ?_ rfl, i + 1, false, qp, fun h => (by cases h), fun _ => ?_, rfl⟩
     ·exact jap
     ·exact ja3
     ·rw [← hgA, zgz (hbad he)]; simp
   ·have hge : i = TL.length := qp
    subst hge
    have hA : gA = true := by rw [← hgA, hg1, zjb (zhs hlt' hpre)]; rfl
    subst hA
    refine G [8, 3, 4, 9, 0] ?_
    exact jaw
 have hgAT : gA = true → (TL = t1 ∧ TL.length = t1.length ∧ s1.length = q1.length) := fun h => by
  rw [h, qbv] at hgA
  exact ⟨zgy.1 hgA.2, hg0T hgA.1⟩
 have hgAF : gA = false → ¬ ((TL = t1 ∧ zgX s1 q1 = true) ∧ ∀ s ∈ s1, okSt k1 w1 s) := fun h hgood => by
  have h1 : g0 = true := by
   cases hq : g0 with
   | true => rfl
   | false =>
    exfalso
    refine hg0F hq ⟨by rw [hgood.1.1], ?_⟩
    by_cases hl : s1.length = q1.length
    ·exact hl
    ·have := keysB_len hl; rw [this] at hgood; cases hgood.1.2
  rw [h, h1, zjb hgood.1.1] at hgA
  cases hgA
 clear hgA hg0T hg0F hchT hleT hcht hlet
 refine G [6] ?_
 refine zac (fun m st => ∃ (i : Nat) (g : Bool), m + i = s1.length ∧ (g = true → gA = true ∧ ∀ j, j < i → ∀ s p, s1[j]? = some s → q1[j]? = some p → s.key = p.key ∧ okSt k1 w1 s) ∧ (g = false → ¬ ((TL = t1 ∧ zgX s1 q1 = true) ∧ ∀ s ∈ s1, okSt k1 w1 s)) ∧ st = St.of [(1, .ref 1 0), (8, qf g), (10, qd i)] [(1, .box 32 (dmC k1 p1 (.sl q1.length 5 QL) (.sl t1.length 4 T1) (.sl s1.length 41 L) v1 R1 sk1 sp1 SQ1 a1 e1 g1 w1 l1'))]) s1.length ?_ ?_
 ·refine ⟨_, zae id _ _ ?_ ?_ rfl, 0, gA, qp, fun h => ⟨h, fun j hj => by omega⟩, hgAF, rfl⟩
  ·exact jap
  ·exact ja3
 rintro m st ⟨i, g, hi, hgt0, hgf, rfl⟩
 cases g with
 | false =>
  rw [if_neg (hgf rfl)] at hE
  subst hE
  refine G [26, 9, 0] ?_
  exact yE
 | true =>
  obtain ⟨hgt, hpre⟩ := hgt0 rfl
  obtain ⟨hTt, hlt', hls⟩ := hgAT hgt
  by_cases hlt : i < s1.length
  ·obtain ⟨x, hx⟩ := qo hlt
   obtain ⟨y, hy⟩ : ∃ y, q1[i]? = some y := ⟨q1[i]'qp, List.getElem?_eq_getElem qp⟩
   have hch := hchS i x hx
   have hle := hleS i hlt
   have hch2 := hchQ i y hy
   have hle2 := hleQ i qp
   have hmem := qbh hx
   have hpk : (QL.drop (i * 5))[0]? = some (qg y.key) := by
    have := congrArg (fun x => x[0]?) hch2
    exact jcD
   have hkn := @keysB_ne s1 q1 i x y hx hy
   have hkbad : x.key ≠ y.key → ¬ ((TL = t1 ∧ zgX s1 q1 = true) ∧ ∀ s ∈ s1, okSt k1 w1 s) := fun hne h => by rw [hkn hne] at h; cases h.1.2
   have hsbad : ¬ okSt k1 w1 x → ¬ ((TL = t1 ∧ zgX s1 q1 = true) ∧ ∀ s ∈ s1, okSt k1 w1 s) := fun hno h => hno (h.2 x hmem)
   clear hkn hch2
   obtain ⟨key, ep, a, b, c, ⟨lv, mine, nc, hb, hs⟩, q⟩ := x
   dsimp only at hkbad hsbad
   refine G [9, 4, 14] ?_
   refine je4 ?_
   by_cases hkk : key = y.key
   rotate_left
   ·refine G [9] ?_
    refine jeU ?_
    refine jfb (zbp (c := false) (decide_eq_false hkk)) ?_
    refine G [10] ?_
    by_cases hk : k1 = ⟨#[]⟩
    ·refine jeZ ?_
     skip
     refine G [21, 9, 0] ?_
     exact jcw
    ·refine G [5] ?_
     refine jeJ ?_
     refine jdR ?_
     skip
     refine jdD ?_
     exact jcw
   by_cases ht : hs ≤ w1
   rotate_left
   ·refine G [9] ?_
    refine jeU ?_
    refine jeK ?_
    refine G [6, 3, 3] ?_
    have hno : ¬ okSt k1 w1 ⟨key, ep, a, b, c, ⟨lv, mine, nc, hb, hs⟩, q⟩ := fun h => h (.inr (by show w1 < hs; omega))
    by_cases hk : k1 = ⟨#[]⟩
    ·refine jeZ ?_
     skip
     refine G [21, 9, 0] ?_
     exact jaW
    ·refine G [5] ?_
     refine jeJ ?_
     refine jdR ?_
     skip
     refine jdD ?_
     exact jaW
   refine G [9] ?_
   refine jeU ?_
   refine jeK ?_
   refine G [6, 4, 3] ?_
   by_cases hk : k1 = ⟨#[]⟩
   ·refine jeZ ?_
    by_cases hz : a = KY0 ∧ b = KY0 ∧ c = KY0
    ·cases lv with
     | true =>
      skip
      refine G [4] ?_
      refine jdx ?_
      refine jeH ?_
      refine jen ?_
      refine G [9] ?_
      have hno : ¬ okSt k1 w1 ⟨key, ep, a, b, c, ⟨true, mine, nc, hb, hs⟩, q⟩ := fun h => h (.inl ⟨hk, .inr rfl⟩)
      refine zcq (zaH (jdD ?_))
      exact jaW
     | false =>
      skip
      refine G [4] ?_
      refine jdx ?_
      refine jeH ?_
      refine jen ?_
      refine G [9] ?_
      have HOK : okSt k1 w1 ⟨key, ep, a, b, c, ⟨false, mine, nc, hb, hs⟩, q⟩ := by
       rintro (⟨_, h | h⟩ | h)
       ·exact h hz
       ·cases h
       ·have h' : w1 < hs := h
        omega
      exact ja0
    ·skip
     refine G [4] ?_
     refine jdx ?_
     refine jeH ?_
     refine zaa (zbW U55 (xs := a.vals ++ b.vals ++ c.vals) (ys := KY0.vals ++ KY0.vals ++ KY0.vals) rfl rfl qr qr qr (c := false) (zdS.2 (fun e => hz (zcA.1 e)))) rfl rfl ?_
     refine G [9] ?_
     have hno : ¬ okSt k1 w1 ⟨key, ep, a, b, c, ⟨lv, mine, nc, hb, hs⟩, q⟩ := fun h => h (.inl ⟨hk, .inl hz⟩)
     refine zcq (zaH (jdD ?_))
     exact jaW
   ·refine G [5] ?_
    refine jeJ ?_
    refine jdR ?_
    have HOK : okSt k1 w1 ⟨key, ep, a, b, c, ⟨lv, mine, nc, hb, hs⟩, q⟩ := by
     rintro (⟨h, _⟩ | h)
     ·exact hk h
     ·have h' : w1 < hs := h
      omega
    exact ja0
  ·have hge : i = s1.length := qp
   subst hge
   have hkall : zgX s1 q1 = true := keysB_all hls fun j hj => by
    have h1 : s1[j]? = some s1[j] := List.getElem?_eq_getElem hj
    have h2 : q1[j]? = some (q1[j]'qp) := List.getElem?_eq_getElem qp
    rw [h1, h2]
    simp [(hpre j hj _ _ h1 h2).1]
   have hall : ∀ s ∈ s1, okSt k1 w1 s := fun s hs => by
    obtain ⟨j, hj, rfl⟩ := List.getElem_of_mem hs
    exact (hpre j hj _ (q1[j]'qp) (List.getElem?_eq_getElem hj) (List.getElem?_eq_getElem qp)).2
   rw [if_pos ⟨⟨hTt, hkall⟩, hall⟩] at hE
   subst hE
   refine G [9, 3, 17, 9, 0] ?_
   exact yE
theorem bclone_s (n : Nat) (xs : List Int) (hx : xs.length = n) (hn : n ≤ 140737488355328) : Fn prog 81 [ql n 1 (bs xs)] (.row 0) [(0, .row 5 1 n (bs xs))] := by
 refine fnI fun w0 A => ?_
 refine G [4] ?_
 by_cases h0 : n = 0
 ·subst h0
  obtain rfl : xs = [] := qbt hx
  refine G [4] ?_
  refine jfb (a_seqX U91) ?_
  refine je1 ?_
  refine zf2 rfl ?_ ?_
  ·refine G [4, 9, 0] ?_
   refine zaK (zbF 2 100 5 1 rfl rfl) ?_
   refine zaA (zbA ?_)
   exact jaO
  ·refine G [3] ?_
   refine jfc (za5 5 U91 sz5) ?_
   refine jdJ ?_
   refine zab (zaq 7 U91 eo5 (zcF) qB qp rfl rfl) rfl rfl ⟨rfl, rfl, trivial⟩ ?_
   exact jbr
 ·refine G [4] ?_
  refine zaa (a_seqS U91 qp) rfl rfl ?_
  refine je1 ?_
  refine cX ?_ ?_ <;> intro h
  ·cases h
  ·refine G [3] ?_
   refine jfc (za5 5 U91 sz5) ?_
   refine jdJ ?_
   refine zab (zaq 7 U91 eo5 (zcF) qB qp (show _ = n by omega) rfl) rfl rfl ⟨rfl, rfl, trivial⟩ ?_
   refine jdR ?_
   refine yT (fun _ => 7) ?_ ?_
   ·exact rfl
   ·exact ja3
theorem pq_push (l : List PQ) (i : Nat) (p : PQ) (h : l[i]? = some p) : (l.take i).flatMap PQ.pv ++ [qi p.a, qi p.b, .sl p.xs.length 1 (bs p.xs)] = (l.take (i + 1)).flatMap PQ.pv := by
 obtain ⟨h1, h2⟩ := qbl.1 h
 rw [qbn h1, h2, qbD]
 simp [PQ.pv]
theorem st_push (l : List ST) (i : Nat) (s : ST) (h : l[i]? = some s) : (l.take i).flatMap ST.pv ++ s.pv = (l.take (i + 1)).flatMap ST.pv := by
 obtain ⟨h1, h2⟩ := qbl.1 h
 exact jch
theorem tcopy_s (l : List ST) (ok : ∀ s ∈ l, s.OK) (hn : l.length ≤ 1048576) : Fn prog 43 [ql l.length 41 (l.flatMap ST.pv)] (.row 0) [(0, .row 60 41 l.length (l.flatMap ST.pv))] := by
 refine fnI fun w0 A => ?_
 refine G [8] ?_
 refine zab (zh4 11 U26 eo60 qp qp qB) rfl rfl ⟨rfl, trivial⟩ ?_
 refine G [10] ?_
 refine zac (fun m st => ∃ i : Nat, m + i = l.length ∧ st = St.of [(3, .row 100), (12, ql l.length 41 (l.flatMap ST.pv)), (13, qd l.length), (14, qd i)] [(100, .row 60 41 i ((l.take i).flatMap ST.pv))]) l.length ?_ ?_
 ·refine ⟨_, zae (fun _ => 11) _ _ ?_ ?_ rfl, 0, qp, rfl⟩
  ·exact jap
  ·exact ja3
 rintro m st ⟨i, hi, rfl⟩
 refine G [5] ?_
 refine cX ?_ ?_ <;> intro h
 ·have hlt : i < l.length := qu
  clear h
  obtain ⟨s, hs⟩ := qo hlt
  have hch := zaj (f := ST.pv) (k := 41) (fun _ => rfl) hs
  have hle := zai (f := ST.pv) (k := 41) (fun _ => rfl) hlt
  obtain ⟨_, _, _, _, hq, hqx⟩ := ok s (qbh hs)
  have hpush := st_push l i s hs
  have hil : ((l.take i).flatMap ST.pv).length = i * 41 := qao
  generalize hL : l.flatMap ST.pv = L at *
  generalize (l.take i).flatMap ST.pv = T at *
  obtain ⟨key, ep, a, b, c, hh, q⟩ := s
  dsimp only at hq hqx
  refine G [8] ?_
  refine jef ?_
  refine G [6] ?_
  refine zab (zh4 21 U58 eo93 qp qp qB) rfl rfl ⟨rfl, trivial⟩ ?_
  refine G [11] ?_
  refine zac (fun m' st => ∃ j : Nat, m' + j = q.length ∧ st = St.of [(3, .row 100), (5, .ref 5 0), (6, .row 101), (12, ql l.length 41 L), (13, qd l.length), (14, qd i), (23, ql q.length 3 (q.flatMap PQ.pv)), (24, qd q.length), (25, qd j)] [(5, .box 60 (stC key ep a b c hh q.length (q.flatMap PQ.pv))), (100, .row 60 41 i T), (101, .row 93 3 j ((q.take j).flatMap PQ.pv))]) q.length ?_ ?_
  ·refine ⟨_, zae (fun o => bif Nat.beq o 101 then 21 else o) _ _ ?_ ?_ rfl, 0, qp, rfl⟩
   ·exact jap
   ·exact jaR
  rintro m' st ⟨j, hj, rfl⟩
  refine G [5] ?_
  refine cX ?_ ?_ <;> intro h
  ·have hlj : j < q.length := qu
   clear h
   obtain ⟨p, hp⟩ := qo hlj
   have hch2 := zaj (f := PQ.pv) (k := 3) (fun _ => rfl) hp
   have hle2 := zai (f := PQ.pv) (k := 3) (fun _ => rfl) hlj
   have hC := bclone_s p.xs.length p.xs rfl (by have := hqx p (qbh hp); omega)
   have hpp := pq_push q j p hp
   have hjl : ((q.take j).flatMap PQ.pv).length = j * 3 := qaq
   generalize hQ : q.flatMap PQ.pv = Q at *
   generalize (q.take j).flatMap PQ.pv = V at *
   obtain ⟨pa, pb, xs⟩ := p
   dsimp only at hC hpp
   refine je2 ?_
   refine G [5] ?_
   refine zay (fun _ => 31) (hC) rfl rfl func81 rfl rfl qw rfl rfl rfl qq rfl rfl rfl ?_
   refine G [3] ?_
   refine za7 (zcL (cs := bs xs) 31 rfl) ?_
   skip
   refine G [3] ?_
   refine jfc (zag 35 U58 sz93 zc93 (qbe rfl) (qbe rfl) rfl rfl rfl rfl (qbe rfl)) ?_
   refine zab (zaq 36 U58 eo93 (zaS) qB qp rfl rfl) rfl rfl ⟨rfl, rfl, rfl, trivial⟩ ?_
   refine jdI ?_
   refine ⟨m' - 1, qp, _, zae (fun o => bif Nat.beq o 101 then 36 else o) _ _ ?_ ?_ rfl, j + 1, qp, rfl⟩
   ·exact jap
   ·exact ⟨⟨rfl, rfl⟩, ⟨rfl, rfl⟩, ⟨by rw [← hpp]; rfl, rfl⟩, trivial⟩
  have hge : j = q.length := qu
  clear h
  subst hge
  rw [qbI]
  refine G [7] ?_
  refine za7 (zcL (cs := q.flatMap PQ.pv) 101 rfl) ?_
  skip
  refine G [3] ?_
  refine jfc (zag 42 U26 sz60 zc60 (qbe rfl) (qbe rfl) rfl rfl rfl rfl (qbe rfl)) ?_
  refine zab (zaq 43 U26 eo60 (zaS) qB qp rfl rfl) rfl rfl ⟨rfl, rfl, rfl, trivial⟩ ?_
  refine jdI ?_
  refine ⟨m - 1, qp, _, zae (fun o => 43) _ _ ?_ ?_ rfl, i + 1, qp, rfl⟩
  ·exact jap
  ·exact ⟨⟨by rw [← hpush]; rfl, rfl⟩, trivial⟩
 exact jbf
theorem set_here {α : Type} {l : List α} {i : Nat} {x : α} (h : l[i]? = some x) : l.set i x = l := by
 exact jct
theorem re_nilB {st : St} (q : Nat) {ty : TypeId} {cs : List AV} (k o e size : Nat) (hq : st.heap q = qj ty cs) (hk : cs[k]? = some (qm)) (ho : st.heap o = .un) :
 Re st (st.upd [(q, qj ty (cs.set k (.row o))), (o, qk e size 0 [])]) := by
 rintro w0 A nt a w ⟨⟨S, m, hm, hj, hr⟩, hsz, hd⟩
 have hmo := hm.un o ho
 have hqo : q ≠ o := fun e => by rw [e, ho] at hq; cases hq
 have g : Grow S m w S (fun x => if x = o then some (.slice none 0 0) else m x) w := ⟨fun _ h => h, fun _ _ => rfl, fun x v h => by
  by_cases hx : x = o
  ·subst hx; rw [hmo] at h; cases h
  ·simp only [if_neg hx]; exact h⟩
 refine ⟨⟨S, fun x => if x = o then some (.slice none 0 0) else m x, ?_, hj, fun t' => ?_⟩, hsz, hd⟩
 ·have key : ∀ x ob, (st.upd [(q, qj ty (cs.set k (.row o))), (o, qk e size 0 [])]).heap x = .live ob → x ≠ o → ∃ ob', st.heap x = .live ob' := fun x ob hx e1 => by
   by_cases e2 : x = q
   ·subst e2; exact ⟨_, hq⟩
   ·exact ⟨ob, by simpa [St.upd, updL, nbeq e1, nbeq e2] using hx⟩
  refine ⟨hm.bel, hm.sA, hm.sW, fun x hx => ?_, fun x ob hx => ?_, fun x x' ob ob' v v' b hx hx' hv hv' hb hb' => ?_, hm.gl⟩
  ·by_cases e2 : x = q
   ·subst e2; simp [St.upd, updL] at hx
   by_cases e1 : x = o
   ·subst e1; simp [St.upd, updL, nbeq e2] at hx
   ·simp only [if_neg e1]
    refine hm.un x ?_
    simpa [St.upd, updL, nbeq e1, nbeq e2] using hx
  ·by_cases e2 : x = q
   ·subst e2
    have hob : ob = .box ty (cs.set k (.row o)) := by
     simp [St.upd, updL] at hx
     exact hx.symm
    subst hob
    obtain ⟨v, h1, ⟨b, us, q1, q2, q3, q4, q5⟩, h3⟩ := hm.live x _ hq
    refine ⟨v, by simp only [if_neg hqo]; exact h1, ⟨b, us, q1, q2, ?_, q4, q5⟩, h3⟩
    obtain ⟨u, hu1, hu2⟩ := q3.at_ hk
    simp only [Rep, PRep] at hu2
    have := (RepL.mono g _ _ q3).set k (c := .row o) (u := u) (by
     simp only [Rep]
     rw [hu2.1]
     exact ⟨qC, _, _, _, rfl⟩)
    rwa [set_here hu1] at this
   by_cases e1 : x = o
   ·subst e1
    simp [St.upd, updL, nbeq e2] at hx
    subst hx
    refine ⟨.slice none 0 0, qC, ⟨[], by simp [PRepL], qC, .inl ⟨rfl, rfl⟩⟩, fun b hb => by simp [blk] at hb⟩
   ·have hx' : st.heap x = .live ob := by simpa [St.upd, updL, nbeq e1, nbeq e2] using hx
    obtain ⟨v, h1, h2, h3⟩ := hm.live x ob hx'
    exact ⟨v, by simp only [if_neg e1]; exact h1, h2.mono g fun _ _ => rfl, h3⟩
  ·by_cases e1 : x = o
   ·subst e1; simp at hv; subst hv; simp [blk] at hb
   ·by_cases e2 : x' = o
    ·subst e2; simp at hv'; subst hv'; simp [blk] at hb'
    ·simp only [if_neg e1] at hv
     simp only [if_neg e2] at hv'
     obtain ⟨o1, k1⟩ := key x ob hx e1
     obtain ⟨o2, k2⟩ := key x' ob' hx' e2
     exact hm.inj x x' o1 o2 v v' b k1 k2 hv hv' hb hb'
 ·exact Rep.mono g _ _ (hr t')
def stA (key ep : ByteArray) (a b c : KY) (h : HS) (Q : AV) : List AV := [qc key, qc ep] ++ zdK a b c ++ h.cells ++ [Q]
theorem rcopy_s (l : List ST) (ok : ∀ s ∈ l, s.OK) (hn : l.length ≤ 1048576) : Fn Tryz.prog 23 [ql l.length 41 (l.flatMap ST.pv)] (.row 0) [(0, .row 60 41 l.length (l.flatMap ST.pv))] := by
 refine fnI fun w0 A => ?_
 refine G [16] ?_
 refine zaK (zbF 3 100 60 41 rfl rfl) ?_
 refine zac (fun m st => ∃ i : Nat, m + i = l.length ∧ st = St.of [(3, .row 100), (9, ql l.length 41 (l.flatMap ST.pv)), (10, qd l.length), (11, qd i)] [(100, .row 60 41 i ((l.take i).flatMap ST.pv))]) l.length ?_ ?_
 ·exact jcE
 rintro m st ⟨i, hi, rfl⟩
 refine G [5] ?_
 refine cX ?_ ?_ <;> intro h
 ·have hlt : i < l.length := qu
  clear h
  obtain ⟨s, hs⟩ := qo hlt
  have hch := zaj (f := ST.pv) (k := 41) (fun _ => rfl) hs
  have hle := zai (f := ST.pv) (k := 41) (fun _ => rfl) hlt
  obtain ⟨_, _, _, _, hq, hqx⟩ := ok s (qbh hs)
  have hpush := st_push l i s hs
  have hil : ((l.take i).flatMap ST.pv).length = i * 41 := qao
  generalize hL : l.flatMap ST.pv = L at *
  generalize (l.take i).flatMap ST.pv = T at *
  obtain ⟨key, ep, a, b, c, hh, q⟩ := s
  dsimp only at hq hqx
  refine G [8] ?_
  refine jef ?_
  refine G [3] ?_
  refine jed ?_
  refine jfc (zaW 6 zr60 rfl) ?_
  refine jef ?_
  refine G [4] ?_
  refine jfc (zcM (es := stA key ep a b c hh (qm)) sz58 rfl rfl (qbe rfl) rfl) ?_
  refine je1 ?_
  refine zaK (re_nilB 6 40 101 93 3 rfl rfl rfl) ?_
  refine G [9] ?_
  refine zac (fun m' st => ∃ j : Nat, m' + j = q.length ∧ st = St.of [(3, .row 100), (6, .ref 6 0), (9, ql l.length 41 L), (10, qd l.length), (11, qd i), (18, ql q.length 3 (q.flatMap PQ.pv)), (19, qd q.length), (20, qd j)] [(6, .box 60 (stA key ep a b c hh (.row 101))), (100, .row 60 41 i T), (101, .row 93 3 j ((q.take j).flatMap PQ.pv))]) q.length ?_ ?_
  ·exact jcF
  rintro m' st ⟨j, hj, rfl⟩
  refine G [5] ?_
  refine cX ?_ ?_ <;> intro h
  ·have hlj : j < q.length := qu
   clear h
   obtain ⟨p, hp⟩ := qo hlj
   have hch2 := zaj (f := PQ.pv) (k := 3) (fun _ => rfl) hp
   have hle2 := zai (f := PQ.pv) (k := 3) (fun _ => rfl) hlj
   have hxl := hqx p (qbh hp)
   have hpp := pq_push q j p hp
   have hjl : ((q.take j).flatMap PQ.pv).length = j * 3 := qaq
   generalize hQ : q.flatMap PQ.pv = Q at *
   generalize (q.take j).flatMap PQ.pv = V at *
   obtain ⟨pa, pb, xs⟩ := p
   dsimp only at hpp hxl
   refine je2 ?_
   refine G [10] ?_
   refine zab (zjn (zcb 32 U91 eo5 (zcF) qB qp)) rfl rfl ⟨rfl, trivial⟩ ?_
   refine jfb (zbT pl93 zr93 rfl rfl) ?_
   refine zab (xs := [.agg [qe pa, qe pb, ql xs.length 1 (bs xs)]]) (zag (es := [qe pa, qe pb, ql xs.length 1 (bs xs)]) (cs := [qi pa, qi pb, .sl xs.length 1 (bs xs)]) 34 U58 sz93 zc93 (qbe rfl) (qbe rfl) rfl qr qr qr (qbe rfl)) qP rfl ⟨rfl, trivial⟩ ?_
   refine zab (zaq 35 U58 eo93 (zaS) qB qp (show _ = j + 1 by omega) hpp) rfl rfl ⟨rfl, rfl, rfl, trivial⟩ ?_
   refine fA fi60_4 rfl rfl ?_
   refine jfc (zcM (es := stA key ep a b c hh (.row 35)) sz58 rfl rfl (qbe rfl) rfl) ?_
   refine jdD ?_
   refine ⟨m' - 1, qp, _, zae (fun o => bif Nat.beq o 101 then 35 else o) _ _ ?_ ?_ rfl, j + 1, qp, rfl⟩
   ·exact jap
   ·exact jaR
  have hge : j = q.length := qu
  clear h
  subst hge
  rw [qbI]
  refine zaJ (zbK (zbK (zb8 (zaH (zaX (zcL (cs := q.flatMap PQ.pv) 101 rfl) ?_)))))
  skip
  refine G [2] ?_
  refine jed ?_
  refine zab (xs := [.agg (stC key ep a b c hh q.length (q.flatMap PQ.pv))]) (zag (es := (stC key ep a b c hh q.length (q.flatMap PQ.pv))) (cs := (ST.pv ⟨key, ep, a, b, c, hh, q⟩)) 40 U26 sz60 zc60 (qbe rfl) (qbe rfl) rfl qr qr qr (qbe rfl)) qP rfl ⟨rfl, trivial⟩ ?_
  refine zab (zaq 41 U26 eo60 (zaS) qB qp (show _ = i + 1 by omega) hpush) rfl rfl ⟨rfl, rfl, rfl, trivial⟩ ?_
  refine jdI ?_
  refine ⟨m - 1, qp, _, zae (fun o => 41) _ _ ?_ ?_ rfl, i + 1, qp, rfl⟩
  ·exact jap
  ·exact ja3
 exact jbf
end Go.Proofs.YtlfjpippeeikdaaGreatDoor
