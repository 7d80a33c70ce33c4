/- Rows of peers whose nets are one's own: seen by callees, za5 up; names of many. -/
import Derived.Test.YtlfjpippeeikdaaGreatDoorSRc
set_option linter.all false
namespace Go.Proofs.YtlfjpippeeikdaaGreatDoor
open Go.RowKit Go.Sort
set_option maxRecDepth 100000
inductive CellV (fam : List (Nat × Slot)) : List AV → List PV → Prop
 | nil : CellV fam [] []
 | p (x : PV) (cs : List AV) (ps : List PV) : CellV fam cs ps → CellV fam (.p x :: cs) (x :: ps)
 | row (o : Nat) (e size n : Nat) (qs : List PV) (cs : List AV) (ps : List PV) : (o, Slot.live (.row e size n qs)) ∈ fam → CellV fam cs ps → CellV fam (.row o :: cs) (.sl n size qs :: ps)
theorem CellV.append {fam : List (Nat × Slot)} {cs ds : List AV} {ps qs : List PV} (h : CellV fam cs ps) (k : CellV fam ds qs) : CellV fam (cs ++ ds) (ps ++ qs) := by
 induction h with
 | nil => exact k
 | p x cs ps _ ih => exact .p x _ _ ih
 | row o e size n q cs ps h1 _ ih => exact .row o e size n q _ _ h1 ih
theorem CellV.mono {fam fam' : List (Nat × Slot)} (hs : ∀ p ∈ fam, p ∈ fam') {cs : List AV} {ps : List PV} (h : CellV fam cs ps) : CellV fam' cs ps := by
 induction h with
 | nil => exact .nil
 | p x cs ps _ ih => exact .p x _ _ ih
 | row o e size n q cs ps h1 _ ih => exact .row o e size n q _ _ (hs _ h1) ih
section
variable {w0 : World} {A S T : Nat → Prop} {m : Nat → Option Value} {heap : Nat → Slot} {w : World} {fam : List (Nat × Slot)}
theorem zed (hm : Mem w0 A S m heap w) (hS : ∀ b, S b → T b) {o e size n : Nat} {qs : List PV} (ho : heap o = .live (.row e size n qs)) (hT : ∀ v b, m o = some v → blk v = some b → T b) {u : Value} (hr : m o = some u) : PRep T w (.sl n size qs) u := by
 obtain ⟨v, h1, ⟨us, h2, h3⟩, _⟩ := hm.live o _ ho
 rw [hr] at h1
 obtain rfl := Option.some.inj h1
 have hl := h2.length
 have hr2 := fun b hb => zbG h3 (b := b) hb
 simp only [PRep]
 rcases h3.2 with ⟨rfl, rfl⟩ | ⟨g, cap, cur, fz, rfl, _, hh, _, h8, h9, _, h10⟩
 ·exact ⟨none, 0, us, rfl, Nat.le_refl _, by rw [← hl, h3.1], PRepL.mono hS (fun _ _ => rfl) _ _ h2, .inl rfl⟩
 ·exact ⟨some ⟨g, 0, none⟩, cap, us, rfl, h8, by rw [← hl, h3.1], PRepL.mono hS (fun _ _ => rfl) _ _ h2, .inr ⟨g, 0, rfl, hT _ g hr rfl, hr2 g rfl⟩⟩
theorem cellV_rep (hm : Mem w0 A S m heap w) (hS : ∀ b, S b → T b) (hfam : ∀ p ∈ fam, heap p.1 = p.2) (hT : ∀ p ∈ fam, ∀ v b, m p.1 = some v → blk v = some b → T b) {cs : List AV} {ps : List PV} (h : CellV fam cs ps) : ∀ {us : List Value}, RepL S m w cs us → PRepL T w ps us := by
 induction h with
 | nil => intro us h; simpa only [RepL, PRepL] using h
 | p x cs ps _ ih =>
  intro us h
  simp only [RepL, PRepL, Rep] at h ⊢
  obtain ⟨u, us, rfl, h1, h2⟩ := h
  exact ⟨u, us, rfl, PRep.mono hS (fun _ _ => rfl) _ _ h1, ih h2⟩
 | row o e size n qs cs ps h1 _ ih =>
  intro us h
  simp only [RepL, PRepL, Rep] at h ⊢
  obtain ⟨u, us, rfl, ⟨h2, _⟩, h3⟩ := h
  exact ⟨u, us, rfl, zed hm hS (hfam _ h1) (fun v b hv hb => hT _ h1 v b hv hb) h2, ih h3⟩
theorem rowA_rep (hm : Mem w0 A S m heap w) (hS : ∀ b, S b → T b) (hfam : ∀ p ∈ fam, heap p.1 = p.2) (hT : ∀ p ∈ fam, ∀ v b, m p.1 = some v → blk v = some b → T b) {o e size n : Nat} {c : Option Nat} {cs : List AV} {ps : List PV} (h : CellV fam cs ps)
 (ho : heap o = .live (.rowA e size n c cs)) (hTo : ∀ v b, m o = some v → blk v = some b → T b) {u : Value} (hr : m o = some u) : PRep T w (.sl n size ps) u := by
 obtain ⟨v, h1, ⟨us, h2, h3, _⟩, _⟩ := hm.live o _ ho
 rw [hr] at h1
 obtain rfl := Option.some.inj h1
 have h4 := cellV_rep hm hS hfam hT h h2
 have hl := h4.length
 have hr2 := fun b hb => zbG h3 (b := b) hb
 simp only [PRep]
 rcases h3.2 with ⟨rfl, rfl⟩ | ⟨g, cap, cur, fz, rfl, _, hh, _, h8, h9, _, h10⟩
 ·exact ⟨none, 0, us, rfl, Nat.le_refl _, by rw [← hl, h3.1], h4, .inl rfl⟩
 ·exact ⟨some ⟨g, 0, none⟩, cap, us, rfl, h8, by rw [← hl, h3.1], h4, .inr ⟨g, 0, rfl, hTo _ g hr rfl, hr2 g rfl⟩⟩
end
section
variable {P : Program} {d : Option Tmp} {ty : TypeId} {pos : String} {af : Array Edge} {g : Option (Nat × Bool)} {x : Operand} {args : Array Operand} {ts : Array TypeId} {f : FuncId} {fn : Func}
theorem a_callD {k1 k2 y : PV} {o e size n : Nat} {c : Option Nat} {cs : List AV} {ps : List PV} {fam : List (Nat × Slot)} {res : AV} (hf : P.funcs[f]? = some fn) (hb : fn.body.isNone = false) (hn : (fn.name == "runtime.NumGoroutine") = false)
 (hV : CellV fam cs ps) (hl : fam.all (fun p => match p.2 with | .live _ => true | _ => false) = true) (hC : Fn P f [.agg [.p k1, .p k2, .p (.sl n size ps)], .p y] res []) (h1 : res.noSl = true) (h3 : res.okIn [] = true) :
 AOp P ⟨d, .call { callee := .value x, args := args, argTypes := ts }, ty, pos, af, g⟩ [.fn f [], .agg [.p k1, .p k2, .row o], .p y] ((o, .live (.rowA e size n c cs)) :: fam) [] res := by
 intro w0 A S m heap w ev hm hR hrd
 obtain ⟨us, e1, e2⟩ := ze2 hR
 unfold Out
 rw [zdM hf hb hn e1]
 have e4 : args.map ev ++ us.toArray = ((args.map ev).toList ++ us).toArray := qz
 rw [e4]
 generalize (args.map ev).toList ++ us = L at e2
 have ho : heap o = .live (.rowA e size n c cs) := hrd (o, _) qz
 have hfam : ∀ p ∈ fam, heap p.1 = p.2 := fun p hp => hrd p qar
 have hTl : ∀ o ob v b, heap o = .live ob → m o = some v → blk v = some b → b < w.heap.size := fun o ob v b h1 h2 h3 => by
  obtain ⟨v', k1, k2, _⟩ := hm.live o ob h1
  rw [h2] at k1; cases k1
  exact (k2.lt h3).2
 have hT : ∀ p ∈ fam, ∀ v b, m p.1 = some v → blk v = some b → b < w.heap.size := fun p hp v b h2 h3 => by
  have := qbd.1 hl p hp
  have h1 := hfam p hp
  cases hs : p.2 with
  | live ob => exact hTl p.1 ob v b (h1.trans hs) h2 h3
  | un => rw [hs] at this; cases this
  | dead => rw [hs] at this; cases this
 have e3 : RepL (fun b => b < w.heap.size) (fun _ => none) w [.agg [.p k1, .p k2, .p (.sl n size ps)], .p y] L := by
  simp only [qaV, RepL, Rep] at e2 ⊢
  obtain ⟨u, _, rfl, ⟨ua, rfl, ⟨v1, _, rfl, q1, v2, _, rfl, q2, v3, _, rfl, ⟨q3, _⟩, rfl⟩, q4⟩, u2, _, rfl, q5, rfl⟩ := e2
  have hs : ∀ b, S b → b < w.heap.size := fun b hb => hm.sW b hb
  exact ⟨_, _, rfl, ⟨_, rfl, ⟨v1, _, rfl, PRep.mono hs (fun _ _ => rfl) _ _ q1, v2, _, rfl, PRep.mono hs (fun _ _ => rfl) _ _ q2, v3, _, rfl, rowA_rep hm hs hfam hT hV ho (fun v b h2 h3 => hTl o _ v b ho h2 h3) q3, rfl⟩, q4⟩, u2, _, rfl, PRep.mono hs (fun _ _ => rfl) _ _ q5, rfl⟩
 have hcall := hC w (fun b => b < w.heap.size) _ (fun b h => h) (hm.gl.below hm.bel) e3
 refine hcall.mono fun en w' ⟨v, he, S', m', hres, hk⟩ => ⟨v, he, ?_⟩
 obtain ⟨m2, k1, k2, k3⟩ := zfi (S2 := S) (news := []) (fun o => o) hm hk (Rep.noSl _ _ h1 hres) (fun o ob u ho hr => by cases ho) (fun b h => h) (fun b h => .inl h) (fun k hk => by cases hk) rfl rfl h3
 rw [zhM] at k1
 exact ⟨S, m2, k1, k2, k3⟩
end
theorem zgM {h : Nat → Slot} : ∀ {l : List (Nat × Slot)} {o : Nat}, (updL h (l.map fun p => (p.1, Slot.dead)) o = .dead ∧ o ∈ l.map Prod.fst) ∨ (updL h (l.map fun p => (p.1, Slot.dead)) o = h o ∧ o ∉ l.map Prod.fst)
 | [], o => .inr ⟨rfl, qz⟩
 | (n, s) :: l, o => by
  by_cases e : o = n
  ·subst e; exact .inl ⟨by simp [updL], qz⟩
  ·rcases zgM (h := h) (l := l) (o := o) with ⟨h1, h2⟩ | ⟨h1, h2⟩
   ·exact .inl ⟨by simp only [qaF, updL, nbeq e, cond_false]; exact h1, by simp [h2]⟩
   ·exact .inr ⟨by simp only [qaF, updL, nbeq e, cond_false]; exact h1, by simp only [qaF, qaI, not_or]; exact ⟨e, h2⟩⟩
theorem zdP {st : St} {fam : List (Nat × Slot)} {o e size n : Nat} {c : Option Nat} {cs : List AV} {ps : List PV} (hV : CellV fam cs ps) (hfam : ∀ p ∈ fam, st.heap p.1 = p.2) (hl : fam.all (fun p => match p.2 with | .live _ => true | _ => false) = true)
 (ho : st.heap o = .live (.rowA e size n c cs)) (hno : o ∉ fam.map Prod.fst) : ReO st ⟨st.tmps, updL st.heap ((o, .live (.row e size n ps)) :: fam.map fun p => (p.1, .dead))⟩ := by
 rintro w0 A nt a w ⟨⟨S, m, hm, hj, hr⟩, hsz, hd⟩
 have hlive : ∀ p ∈ fam, ∃ ob, st.heap p.1 = .live ob := fun p hp => by
  have := qbd.1 hl p hp
  have h1 := hfam p hp
  cases hs : p.2 with
  | live ob => exact ⟨ob, h1.trans hs⟩
  | un => rw [hs] at this; cases this
  | dead => rw [hs] at this; cases this
 obtain ⟨S', hS'⟩ : ∃ S' : Nat → Prop, S' = fun b => S b ∨ ∃ p ∈ fam, ∃ v, m p.1 = some v ∧ blk v = some b := ⟨_, rfl⟩
 have hs : ∀ b, S b → S' b := fun b hb => by rw [hS']; exact .inl hb
 have hTf : ∀ p ∈ fam, ∀ v b, m p.1 = some v → blk v = some b → S' b := fun p hp v b h1 h2 => by rw [hS']; exact .inr ⟨p, hp, v, h1, h2⟩
 have g : Grow S m w S' m w := ⟨hs, fun _ _ => rfl, fun _ _ h => h⟩
 have hold : ∀ x ob, updL st.heap ((o, .live (.row e size n ps)) :: fam.map fun p => (p.1, .dead)) x = .live ob → x ≠ o → st.heap x = .live ob ∧ x ∉ fam.map Prod.fst := fun x ob hx hne => by
  simp only [updL, nbeq hne, cond_false] at hx
  rcases zgM (h := st.heap) (l := fam) (o := x) with ⟨h1, _⟩ | ⟨h1, h2⟩
  ·rw [h1] at hx; cases hx
  ·rw [h1] at hx; exact ⟨hx, h2⟩
 have hnS : ∀ x ob v b, st.heap x = .live ob → x ∉ fam.map Prod.fst → m x = some v → blk v = some b → ¬ S' b := fun x ob v b hx hnf hv hb hS => by
  obtain ⟨v', k1, _, k3⟩ := hm.live x ob hx
  rw [hv] at k1; cases k1
  rw [hS'] at hS
  rcases hS with hS | ⟨p, hp, v', h1, h2⟩
  ·exact k3 b hb hS
  ·obtain ⟨ob', hob⟩ := hlive p hp
   have := hm.inj _ _ _ _ _ _ _ hx hob hv h1 hb h2
   exact hnf (qaJ.2 ⟨p, hp, this.symm⟩)
 refine ⟨⟨S', m, ⟨hm.bel, ?_, ?_, ?_, ?_, ?_, hm.gl⟩, A.up _ _ _ _ _ _ g hj, fun k => Rep.mono g _ _ (hr k)⟩, hsz, hd⟩
 ·intro b hb
  rw [hS'] at hb
  rcases hb with hb | ⟨p, hp, v, h1, h2⟩
  ·exact hm.sA b hb
  ·obtain ⟨ob, hob⟩ := hlive p hp
   obtain ⟨v', k1, k2, _⟩ := hm.live _ _ hob
   rw [h1] at k1; cases k1
   exact .inr (k2.lt h2).1
 ·intro b hb
  rw [hS'] at hb
  rcases hb with hb | ⟨p, hp, v, h1, h2⟩
  ·exact hm.sW b hb
  ·obtain ⟨ob, hob⟩ := hlive p hp
   obtain ⟨v', k1, k2, _⟩ := hm.live _ _ hob
   rw [h1] at k1; cases k1
   exact (k2.lt h2).2
 ·intro x hx
  by_cases e1 : x = o
  ·subst e1; simp [updL] at hx
  ·simp only [updL, nbeq e1, cond_false] at hx
   rcases zgM (h := st.heap) (l := fam) (o := x) with ⟨h1, _⟩ | ⟨h1, h2⟩
   ·rw [h1] at hx; cases hx
   ·rw [h1] at hx; exact hm.un x hx
 ·intro x ob hx
  by_cases e1 : x = o
  ·subst e1
   simp only [updL, qbv, cond_true, Slot.live.injEq] at hx
   subst hx
   obtain ⟨v, h1, ⟨us, h2, h3, _⟩, h4⟩ := hm.live x _ ho
   exact ⟨v, h1, ⟨us, cellV_rep hm hs hfam hTf hV h2, h3⟩, fun b hb => hnS x _ v b ho hno h1 hb⟩
  ·obtain ⟨h1, h2⟩ := hold x ob hx e1
   obtain ⟨v, k1, k2, k3⟩ := hm.live x ob h1
   exact ⟨v, k1, k2.mono g fun _ _ => rfl, fun b hb => hnS x ob v b h1 h2 k1 hb⟩
 ·intro x y ob1 ob2 v1 v2 b h1 h2 h3 h4 h5 h6
  have key : ∀ z obz, updL st.heap ((o, .live (.row e size n ps)) :: fam.map fun p => (p.1, .dead)) z = .live obz → ∃ ob', st.heap z = .live ob' := fun z obz hz => by
   by_cases e1 : z = o
   ·subst e1; exact ⟨_, ho⟩
   ·exact ⟨_, (hold z obz hz e1).1⟩
  obtain ⟨_, g1⟩ := key _ _ h1
  obtain ⟨_, g2⟩ := key _ _ h2
  exact jcx
def cutN (N : List Nat) (m : Nat → Option Value) (o : Nat) : Option Value := bif N.elem o then none else m o
section
variable {S S' : Nat → Prop} {m m' : Nat → Option Value} {w w' : World} {N : List Nat}
theorem cutN_f {o : Nat} (h : (!N.elem o) = true) : cutN N m o = m o := by
 unfold cutN
 rw [qbU] at h
 rw [h]; rfl
theorem zhZ {o : Nat} {v : Value} (hN : ∀ n, N.elem n = true → m n = none) (h : m o = some v) (m' : Nat → Option Value) : cutN N m' o = m' o := by
 cases hq : N.elem o with
 | true => rw [hN o hq] at h; cases h
 | false => exact cutN_f (by rw [hq]; rfl)
mutual
theorem rep_cut2 (hN : ∀ n, N.elem n = true → m n = none) : ∀ (x : AV) (u v : Value), Rep S m w x v → Rep S' m' w' x u → Rep S' (cutN N m') w' x u
 | .p x, u, v, _, h => by simp only [Rep] at h ⊢; exact h
 | .agg cs, u, v, k, h => by
  simp only [Rep] at h k ⊢
  obtain ⟨us, rfl, h1, h2⟩ := h
  obtain ⟨vs, _, k1, _⟩ := k
  exact ⟨us, rfl, zdy hN cs us vs k1 h1, h2⟩
 | .tup cs, u, v, k, h => by
  simp only [Rep] at h k ⊢
  obtain ⟨us, rfl, h1⟩ := h
  obtain ⟨vs, _, k1⟩ := k
  exact ⟨us, rfl, zdy hN cs us vs k1 h1⟩
 | .fn g cs, u, v, k, h => by
  simp only [Rep] at h k ⊢
  obtain ⟨us, rfl, h1⟩ := h
  obtain ⟨vs, _, k1⟩ := k
  exact ⟨us, rfl, zdy hN cs us vs k1 h1⟩
 | .ptr _, u, v, _, h => by simp only [Rep] at h ⊢; exact h
 | .ref o _, u, v, k, h => by
  simp only [Rep] at h k ⊢
  obtain ⟨_, _, k1, _⟩ := k
  rw [zhZ hN k1]; exact h
 | .row o, u, v, k, h => by
  simp only [Rep] at h k ⊢
  rw [zhZ hN k.1]; exact h
 | .psl o _ n _, u, v, k, h => by
  simp only [Rep] at h k ⊢
  obtain ⟨a, cap, rfl, h1, h2⟩ := h
  obtain ⟨_, _, _, _, k2⟩ := k
  rcases k2 with k2 | ⟨_, _, k2, _⟩
  ·exact ⟨a, cap, rfl, h1, .inl k2⟩
  ·exact ⟨a, cap, rfl, h1, by rw [zhZ hN k2]; exact h2⟩
 | .pslc o _, u, v, k, h => by
  simp only [Rep] at h k ⊢
  obtain ⟨_, _, _, k1, _⟩ := k
  rw [zhZ hN k1]; exact h
 | .mp o, u, v, k, h => by
  simp only [Rep] at h k ⊢
  rw [zhZ hN k.1]; exact h
 | .mb b x, u, v, k, h => by
  simp only [Rep] at h k ⊢
  exact ⟨fun hb => rep_cut2 hN x u v (k.1 hb) (h.1 hb), h.2⟩
 | .sat _, u, v, _, h => by simp only [Rep] at h ⊢; exact h
 | .any, u, v, _, h => by simp only [Rep]
theorem zdy (hN : ∀ n, N.elem n = true → m n = none) : ∀ (l : List AV) (us vs : List Value), RepL S m w l vs → RepL S' m' w' l us → RepL S' (cutN N m') w' l us
 | [], us, _, _, h => by simpa only [RepL] using h
 | c :: cs, us, vs, k, h => by
  simp only [RepL] at h k ⊢
  obtain ⟨u, us, rfl, h1, h2⟩ := h
  obtain ⟨v, vs, rfl, k1, k2⟩ := k
  exact ⟨u, us, rfl, rep_cut2 hN c u v k1 h1, zdy hN cs us vs k2 h2⟩
end
theorem orep_cut2 (hN : ∀ n, N.elem n = true → m n = none) {B B' : Nat} : ∀ {ob : AObj} {u v : Value}, ORep B S m w ob u → ORep B' S' m' w' ob v → ORep B' S' (cutN N m') w' ob v
 | .box _ cs, u, v, ⟨_, vs, _, _, k, _⟩, ⟨b, us, h1, h2, h3, h4⟩ => ⟨b, us, h1, h2, zdy hN cs us vs k h3, h4⟩
 | .row _ _ _ _, u, v, _, h => h
 | .map _, u, v, _, h => h
 | .rowA _ _ _ _ cs, u, v, ⟨vs, k, _⟩, ⟨us, h1, h2⟩ => ⟨us, zdy hN cs us vs k h1, h2⟩
end
mutual
def AV.fz (h : Nat → Slot) : AV → AV
 | .row o => match h o with
  | .live (.row _ size n cs) => .p (.sl n size cs)
  | _ => .row o
 | .agg cs => .agg (AV.fzL h cs)
 | .tup cs => .tup (AV.fzL h cs)
 | x => x
def AV.fzL (h : Nat → Slot) : List AV → List AV
 | [] => []
 | c :: cs => AV.fz h c :: AV.fzL h cs
end
mutual
def AV.fzOK (h : Nat → Slot) : AV → Bool
 | .p _ => true
 | .row o => match h o with
  | .live (.row _ _ _ _) => true
  | _ => false
 | .agg cs => AV.fzOKL h cs
 | .tup cs => AV.fzOKL h cs
 | _ => false
def AV.fzOKL (h : Nat → Slot) : List AV → Bool
 | [] => true
 | c :: cs => AV.fzOK h c && AV.fzOKL h cs
end
section
variable {w0 : World} {A S T : Nat → Prop} {m : Nat → Option Value} {heap : Nat → Slot} {w : World}
mutual
theorem rep_fz (hm : Mem w0 A S m heap w) (hS : ∀ b, S b → T b) (hT : ∀ o e size n cs v b, heap o = .live (.row e size n cs) → m o = some v → blk v = some b → T b) : ∀ (x : AV) (u : Value), x.fzOK heap = true → Rep S m w x u → Rep T (fun _ => none) w (x.fz heap) u
 | .p x, u, _, h => by
  simp only [AV.fz, Rep] at h ⊢
  exact PRep.mono hS (fun _ _ => rfl) _ _ h
 | .row o, u, ok, h => by
  simp only [AV.fzOK] at ok
  simp only [Rep] at h
  cases hq : heap o with
  | live ob =>
   cases ob with
   | row e size n cs =>
    simp only [AV.fz, hq, Rep]
    exact zed hm hS hq (fun v b hv hb => hT _ _ _ _ _ v b hq hv hb) h.1
   | _ => simp [hq] at ok
  | _ => simp [hq] at ok
 | .agg cs, u, ok, h => by
  simp only [AV.fzOK] at ok
  simp only [Rep] at h
  obtain ⟨us, rfl, h1, h2⟩ := h
  simp only [AV.fz, Rep]
  exact ⟨us, rfl, repL_fz hm hS hT cs us ok h1, h2⟩
 | .tup cs, u, ok, h => by
  simp only [AV.fzOK] at ok
  simp only [Rep] at h
  obtain ⟨us, rfl, h1⟩ := h
  simp only [AV.fz, Rep]
  exact ⟨us, rfl, repL_fz hm hS hT cs us ok h1⟩
 | .ptr _, _, ok, _ => by simp [AV.fzOK] at ok
 | .ref _ _, _, ok, _ => by simp [AV.fzOK] at ok
 | .psl _ _ _ _, _, ok, _ => by simp [AV.fzOK] at ok
 | .pslc _ _, _, ok, _ => by simp [AV.fzOK] at ok
 | .fn _ _, _, ok, _ => by simp [AV.fzOK] at ok
 | .mb _ _, _, ok, _ => by simp [AV.fzOK] at ok
 | .sat _, _, ok, _ => by simp [AV.fzOK] at ok
 | .mp _, _, ok, _ => by simp [AV.fzOK] at ok
 | .any, _, ok, _ => by simp [AV.fzOK] at ok
theorem repL_fz (hm : Mem w0 A S m heap w) (hS : ∀ b, S b → T b) (hT : ∀ o e size n cs v b, heap o = .live (.row e size n cs) → m o = some v → blk v = some b → T b) : ∀ (l : List AV) (us : List Value), AV.fzOKL heap l = true → RepL S m w l us → RepL T (fun _ => none) w (AV.fzL heap l) us
 | [], us, _, h => by simpa only [AV.fzL, RepL] using h
 | c :: cs, us, ok, h => by
  simp only [AV.fzOKL, qaT] at ok
  simp only [RepL] at h
  obtain ⟨u, us, rfl, h1, h2⟩ := h
  simp only [AV.fzL, RepL]
  exact ⟨u, us, rfl, rep_fz hm hS hT c u ok.1 h1, repL_fz hm hS hT cs us ok.2 h2⟩
end
end
theorem fn_fz {P : Program} {f : FuncId} {args : List AV} {res res' : AV} {news : List (Nat × AObj)} (h : Fn P f args res news) (hr : res.fz (zaT news) = res') (ok : res.fzOK (zaT news) = true) : Fn P f args res' [] := by
 intro w A us hA hG hu
 subst hr
 refine (h w A us hA hG hu).mono fun en w' ⟨v, he, S', m', h1, h2⟩ => ⟨v, he, fun b => S' b ∨ ∃ o e size n cs v0, zaT news o = .live (.row e size n cs) ∧ m' o = some v0 ∧ blk v0 = some b, fun _ => none, ?_, ?_⟩
 ·exact rep_fz h2 (fun b hb => .inl hb) (fun o e size n cs v b ho hv hb => .inr ⟨o, e, size, n, cs, v, ho, hv, hb⟩) _ _ ok h1
 ·refine ⟨h2.bel, ?_, ?_, fun o _ => rfl, fun o ob ho => qae, fun o o' ob ob' v v' b ho => qae, h2.gl⟩
  ·rintro b (hb | ⟨o, e, size, n, cs, v0, h0, h3, h4⟩)
   ·exact h2.sA b hb
   ·obtain ⟨v', k1, k2, _⟩ := h2.live o _ h0
    rw [h3] at k1; cases k1
    exact .inr (k2.lt h4).1
  ·rintro b (hb | ⟨o, e, size, n, cs, v0, h0, h3, h4⟩)
   ·exact h2.sW b hb
   ·obtain ⟨v', k1, k2, _⟩ := h2.live o _ h0
    rw [h3] at k1; cases k1
    exact (k2.lt h4).2
def nzP (x y : AV) : Prop := x = y ∨ ∃ k, x = qj ∧ y = .p (.sl 0 k [])
def nzL : List AV → List AV → Prop
 | [], [] => True
 | x :: l, y :: r => nzP x y ∧ nzL l r
 | _, _ => False
def nzA (x y : AV) : Prop := nzP x y ∨ ∃ l r, x = .agg l ∧ y = .agg r ∧ nzL l r
def nzT : List AV → List AV → Prop
 | [], [] => True
 | x :: l, y :: r => nzA x y ∧ nzT l r
 | _, _ => False
section
variable {S : Nat → Prop} {m : Nat → Option Value} {w : World}
theorem rep_nzP {x y : AV} {u : Value} (h : nzP x y) (k : Rep S m w x u) : Rep S m w y u := by
 rcases h with rfl | ⟨s, rfl, rfl⟩
 ·exact k
 ·simp only [Rep, PRep] at k ⊢
  obtain ⟨rfl, _⟩ := k
  simp only [PRepL]
  exact jcp
theorem zig : ∀ {l r : List AV} {us : List Value}, nzL l r → RepL S m w l us → RepL S m w r us
 | [], [], _, _, k => k
 | x :: l, y :: r, us, h, k => by
  simp only [RepL] at k ⊢
  obtain ⟨u, us, rfl, k1, k2⟩ := k
  exact ⟨u, us, rfl, rep_nzP h.1 k1, zig h.2 k2⟩
theorem rep_nzA {x y : AV} {u : Value} (h : nzA x y) (k : Rep S m w x u) : Rep S m w y u := by
 rcases h with h | ⟨l, r, rfl, rfl, h⟩
 ·exact rep_nzP h k
 ·simp only [Rep] at k ⊢
  obtain ⟨us, rfl, k1, k2⟩ := k
  exact ⟨us, rfl, zig h k1, k2⟩
theorem repL_nzT : ∀ {l r : List AV} {us : List Value}, nzT l r → RepL S m w l us → RepL S m w r us
 | [], [], _, _, k => k
 | x :: l, y :: r, us, h, k => by
  simp only [RepL] at k ⊢
  obtain ⟨u, us, rfl, k1, k2⟩ := k
  exact ⟨u, us, rfl, rep_nzA h.1 k1, repL_nzT h.2 k2⟩
end
theorem fn_nzT {P : Program} {f : FuncId} {args l r : List AV} {news : List (Nat × AObj)} (h : Fn P f args (.tup l) news) (k : nzT l r) : Fn P f args (.tup r) news := by
 intro w A us hA hG hu
 refine (h w A us hA hG hu).mono fun en w' ⟨v, he, S', m', h1, h2⟩ => ⟨v, he, S', m', ?_, h2⟩
 simp only [Rep] at h1 ⊢
 obtain ⟨us, rfl, h1⟩ := h1
 exact ⟨us, rfl, repL_nzT k h1⟩
theorem aop_data {P : Program} {o : Oper} {xs : List AV} {rds : List (Nat × Slot)} {n : Nat} {e : TypeId} {size k : Nat} {zs : List PV} (h : AOp P o xs ((n, .un) :: rds) [(n, .live (.row e size k zs))] (.row n)) : AOp P o xs ((n, .un) :: rds) [] (.p (.sl k size zs)) := by
 intro w0 A S m heap w ev hm hR hrd
 have hn : heap n = .un := hrd (n, .un) qz
 have hNm : ∀ i, [n].elem i = true → m i = none := by
  intro i hi
  have : i = n := by simpa using hi
  subst this
  exact hm.un _ hn
 have key : ∀ (v : Value) (w' : World), (∃ S' m', Rep S' m' w' (.row n) v ∧ Mem w0 A S' m' (updL heap [(n, .live (.row e size k zs))]) w' ∧ Grow S m w S' m' w') → ∃ S' m', Rep S' m' w' (.p (.sl k size zs)) v ∧ Mem w0 A S' m' (updL heap []) w' ∧ Grow S m w S' m' w' := by
  rintro v w' ⟨S', m', h1, h2, h3⟩
  have hl : updL heap [(n, .live (.row e size k zs))] n = .live (.row e size k zs) := by simp [updL]
  have ho : ∀ i, i ≠ n → updL heap [(n, .live (.row e size k zs))] i = heap i := fun i hi => by simp only [updL, nbeq hi, cond_false]
  simp only [Rep] at h1
  let T : Nat → Prop := fun b => S' b ∨ ∃ v0, m' n = some v0 ∧ blk v0 = some b
  have hST : ∀ b, S' b → T b := fun b hb => .inl hb
  refine ⟨T, cutN [n] m', ?_, ⟨h2.bel, ?_, ?_, ?_, ?_, ?_, h2.gl⟩, ⟨fun b hb => .inl (h3.s b hb), h3.w, fun i u hi => by rw [zhZ hNm hi]; exact h3.m i u hi⟩⟩
  ·simp only [Rep]
   exact zed h2 hST hl (fun v b hv hb => .inr ⟨v, hv, hb⟩) h1.1
  ·rintro b (hb | ⟨v0, h5, h4⟩)
   ·exact h2.sA b hb
   ·obtain ⟨v', k1, k2, _⟩ := h2.live n _ hl
    rw [h5] at k1; cases k1
    exact .inr (k2.lt h4).1
  ·rintro b (hb | ⟨v0, h5, h4⟩)
   ·exact h2.sW b hb
   ·obtain ⟨v', k1, k2, _⟩ := h2.live n _ hl
    rw [h5] at k1; cases k1
    exact (k2.lt h4).2
  ·intro i hi
   by_cases e' : i = n
   ·subst e'; simp [cutN]
   ·have : (!([n].elem i)) = true := by simp [e']
    rw [cutN_f this]
    exact h2.un i (by rw [ho i e']; exact hi)
  ·intro i ob hi
   have hi0 : heap i = .live ob := hi
   have e' : i ≠ n := fun e' => by rw [e', hn] at hi0; cases hi0
   have hf : (!([n].elem i)) = true := by simp [e']
   obtain ⟨v1, k1, k2, k3⟩ := h2.live i ob (by rw [ho i e']; exact hi0)
   obtain ⟨v0, _, j2, _⟩ := hm.live i ob hi0
   refine ⟨v1, by rw [cutN_f hf]; exact k1, orep_cut2 hNm j2 (ORep.mono ⟨hST, fun _ _ => rfl, fun _ _ h => h⟩ k2 (fun _ _ => rfl)), fun b hb => ?_⟩
   rintro (hs | ⟨v2, h5, h4⟩)
   ·exact k3 b hb hs
   ·exact e' (h2.inj i n ob _ v1 v2 b (by rw [ho i e']; exact hi0) hl k1 h5 hb h4)
  ·intro i j ob ob' u u' b hi hj hu hu' hb hb'
   have hi0 : heap i = .live ob := hi
   have hj0 : heap j = .live ob' := hj
   have ei : i ≠ n := fun e' => by rw [e', hn] at hi0; cases hi0
   have ej : j ≠ n := fun e' => by rw [e', hn] at hj0; cases hj0
   rw [cutN_f (by simp [ei])] at hu
   rw [cutN_f (by simp [ej])] at hu'
   exact h2.inj i j ob ob' u u' b (by rw [ho i ei]; exact hi0) (by rw [ho j ej]; exact hj0) hu hu' hb hb'
 have h0 := h w0 A S m heap w ev hm hR hrd
 unfold Out at h0 ⊢
 generalize (execOp ev o).run P w = res at h0 ⊢
 cases res with
 | halt x w' => exact h0
 | ok nx w' =>
  cases nx with
  | value v => exact key v w' h0
  | skip => exact key undef w' h0
  | enter f args => exact h0.mono fun e w'' ⟨v, he, hk⟩ => ⟨v, he, key v w'' hk⟩
  | _ => exact h0
end Go.Proofs.YtlfjpippeeikdaaGreatDoor
