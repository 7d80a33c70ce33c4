/- Contracts of functions that are handed a row for good and give a row. -/
import Derived.Test.YtlfjpippeeikdaaGreatDoorSRb
set_option linter.all false
namespace Go.Proofs.YtlfjpippeeikdaaGreatDoor
open Go.RowKit Go.Sort
def ctxS (A : Nat → Prop) (T : Nat → Prop) (w1 : World) : Ctx1 := ⟨A, fun S w => ∀ b, T b → S b ∧ w.heap[b]? = w1.heap[b]?, fun S m w S' m' w' g h b hb => ⟨g.s b (h b hb).1, (g.w b (h b hb).1).trans (h b hb).2⟩⟩
def FnR (P : Program) (f : FuncId) (args : List AV) (ins : List (Nat × AObj)) (res : AV) (outs : List (Nat × AObj)) : Prop :=
 ∀ (w0 : World) (A S : Nat → Prop) (m : Nat → Option Value) (w : World) (us : List Value), Mem w0 A S m (zaT ins) w → RepL S m w args us →
  Calls P f us.toArray w fun e w' => ∃ v, e = .returned v ∧ ∃ S' m', Rep S' m' w' res v ∧ Mem w0 A S' m' (zaT outs) w' ∧ ∀ b, S b → S' b ∧ w'.heap[b]? = w.heap[b]?
theorem zdG {P : Program} {f : FuncId} {fn : Func} {c : Code} {args : List AV} {ins : List (Nat × AObj)} {res : AV} {outs : List (Nat × AObj)} (hf : P.funcs[f]? = some fn) (hb : fn.body = some c) (hn : args.length ≤ fn.ntmps)
 (h : ∀ w0 A, awp ⟨P, w0, ctx0 A, fn.ntmps⟩ c (Fin P fn.results.toList res outs) (St.of (zgy 0 args) ins)) : FnR P f args ins res outs := by
 intro w0 A S m w us hm hr
 refine calls_of_wp hf hb ?_
 have hl := hr.length
 refine wp_mono (h w0 (ctxS A S w) _ w ⟨⟨S, m, hm, fun b hb => ⟨hb, rfl⟩, fun t => ?_⟩, ?_, rfl⟩) ?_
 ·show Rep S m w (zcL (zgy 0 args) t) _
  rw [zfs]
  simp only [qbk, if_true, qcb]
  by_cases ht : t < args.length
  ·have e : args.getD t .any = args[t] := by simp [List.getD_eq_getElem?_getD, ht]
   rw [e]
   obtain ⟨u, h1, h2⟩ := hr.at_ (List.getElem?_eq_getElem ht)
   have hu : t < us.length := qk
   have e2 : (us.toArray ++ Array.replicate (fn.ntmps - us.toArray.size) undef).getD t undef = u := by
    simp only [qbl]
    rw [Array.getElem?_append_left (by simpa using hu)]
    simp [h1]
   rw [e2]; exact h2
  ·have e : args.getD t .any = .any := by simp [List.getD_eq_getElem?_getD, Nat.le_of_not_lt ht]
   rw [e]; simp only [Rep]
 ·simp only [qcd, qbF, Array.size_replicate]; omega
 ·rintro e a w' ⟨st, h1, h2⟩
  obtain ⟨v, hrun, S', m', k1, k2, m2, k3⟩ := fin_okJ h2 h1
  rcases h1.ends with rfl | rfl
  ·exact ⟨h2.defers, _, hrun, _, rfl, S', m', k1, k2, k3⟩
  ·exact ⟨h2.defers, _, hrun, _, rfl, S', m', k1, k2, k3⟩
def vs (us : List Value) : List PV := us.map PV.v
theorem vs_rep {S : Nat → Prop} {w : World} : ∀ {us : List Value}, (∀ x ∈ us, x.oneCell' = true) → PRepL S w (vs us) us
 | [], _ => by simp [vs, PRepL]
 | u :: us, h => by
  simp only [vs, qaF, PRepL, PRep]
  exact ⟨u, us, rfl, ⟨rfl, h u qz⟩, vs_rep fun x hx => h x qay⟩
theorem rep_vs {S : Nat → Prop} {w : World} : ∀ {us vs' : List Value}, PRepL S w (vs us) vs' → vs' = us
 | [], vs', h => by simpa [vs, PRepL] using h
 | u :: us, vs', h => by
  simp only [vs, qaF, PRepL, PRep] at h
  obtain ⟨x, xs, rfl, ⟨rfl, _⟩, h3⟩ := h
  rw [rep_vs (us := us) h3]
section
variable {w0 : World} {A S : Nat → Prop} {m : Nat → Option Value} {heap : Nat → Slot} {w w' : World}
theorem zhQ (hm : Mem w0 A S m heap w) {o d : Nat} {ob ob' : AObj} {v v' : Value} (hl : heap o = .live ob) (hd : heap d = .un) (hv : m o = some v)
 (hbw : Below w0.heap.size w0 w') (hS : ∀ b, S b → w'.heap[b]? = w.heap[b]?) (hX : ∀ x obx u b, x ≠ o → heap x = .live obx → m x = some u → blk u = some b → w'.heap[b]? = w.heap[b]? ∧ blk v' ≠ some b) (hvS : ∀ b, blk v' = some b → ¬ S b) (ho : ORep w0.heap.size S (setM m d v') w' ob' v') :
 Mem w0 A S (setM m d v') (updL heap [(d, .live ob'), (o, .dead)]) w' ∧ Grow S m w S (setM m d v') w' := by
 have hmd : m d = none := hm.un d hd
 obtain ⟨u, k1, k2, k3⟩ := hm.live o ob hl
 rw [hv] at k1; cases k1
 have hdo : d ≠ o := fun e => by rw [e, hl] at hd; cases hd
 have g : Grow S m w S (setM m d v') w' := ⟨fun _ h => h, hS, fun o u hu => by
  have hne : o ≠ d := fun e => by rw [e, hmd] at hu; cases hu
  simpa [setM, hne] using hu⟩
 have key : ∀ {x : Nat} {obx : AObj}, x ≠ d → updL heap [(d, .live ob'), (o, .dead)] x = .live obx → x ≠ o ∧ heap x = .live obx := by
  intro x obx hxd hx
  by_cases e : x = o
  ·subst e; simp [updL, nbeq hxd] at hx
  ·simp only [updL, nbeq hxd, nbeq e, cond_false] at hx; exact ⟨e, hx⟩
 refine ⟨⟨hbw, hm.sA, fun b h => ?_, fun x hx => ?_, fun x obx hx => ?_, fun x y ob1 ob2 v1 v2 b h1 h2 h3 h4 h5 h6 => ?_, hm.gl⟩, g⟩
 ·have h1 := hS b h
  have h2 := hm.sW b h
  rw [qb2 h2] at h1
  exact (qaZ.1 h1).1
 ·by_cases e : x = d
  ·subst e; simp [updL] at hx
  ·by_cases e2 : x = o
   ·subst e2; simp [updL, nbeq e] at hx
   ·simp only [updL, nbeq e, nbeq e2, cond_false] at hx
    simp only [setM, if_neg e]
    exact hm.un x hx
 ·by_cases e : x = d
  ·subst e
   simp only [updL, qbv, cond_true, Slot.live.injEq] at hx
   subst hx
   exact ⟨v', by simp [setM], ho, fun b hb => hvS b hb⟩
  ·obtain ⟨hxo, hx⟩ := key e hx
   obtain ⟨u, j1, j2, j3⟩ := hm.live x obx hx
   exact ⟨u, by simpa [setM, e] using j1, j2.mono g fun b hb => (hX x obx u b hxo hx j1 hb).1, j3⟩
 ·have sep : ∀ {x : Nat} {obx : AObj} {vx : Value}, x ≠ d → updL heap [(d, .live ob'), (o, .dead)] x = .live obx → setM m d v' x = some vx → blk vx = some b → blk v' = some b → False := by
   intro x obx vx hxd hx hmx hbx hbv
   obtain ⟨hxo, hx⟩ := key hxd hx
   simp only [setM, if_neg hxd] at hmx
   exact (hX x obx vx b hxo hx hmx hbx).2 hbv
  by_cases e : x = d <;> by_cases e' : y = d
  ·rw [e, e']
  ·subst e
   simp only [setM, if_true, Option.some.injEq] at h3
   subst h3
   exact (sep e' h2 h4 h6 h5).elim
  ·subst e'
   simp only [setM, if_true, Option.some.injEq] at h4
   subst h4
   exact (sep e h1 h3 h5 h6).elim
  ·obtain ⟨_, g1⟩ := key e h1
   obtain ⟨_, g2⟩ := key e' h2
   simp only [setM, if_neg e] at h3
   simp only [setM, if_neg e'] at h4
   exact jcx
theorem ziu (hm : Mem w0 A S m heap w) (o : Nat) : Mem w0 A S m (updL heap [(o, .dead)]) w := by
 have key : ∀ o', updL heap [(o, .dead)] o' = heap o' ∨ updL heap [(o, .dead)] o' = .dead := fun o' => by
  by_cases e : o' = o
  ·subst e; exact .inr (by simp [updL])
  ·exact .inl (by simp only [updL, nbeq e, cond_false])
 refine ⟨hm.bel, hm.sA, hm.sW, fun o' ho => ?_, fun o' ob ho => ?_, fun o1 o2 ob ob' v v' b ho ho' => ?_, hm.gl⟩
 ·rcases key o' with h | h
  ·exact hm.un o' (h.symm.trans ho)
  ·rw [h] at ho; cases ho
 ·rcases key o' with h | h
  ·exact hm.live o' ob (h.symm.trans ho)
  ·rw [h] at ho; cases ho
 ·rcases key o1 with h | h
  ·rcases key o2 with h' | h'
   ·exact hm.inj o1 o2 ob ob' v v' b (h.symm.trans ho) (h'.symm.trans ho')
   ·rw [h'] at ho'; cases ho'
  ·rw [h] at ho; cases ho
end
def SeenAs (xs zs : List AV) (rds : List (Nat × Slot)) (o : Nat) : Prop :=
 ∀ (w0 : World) (A S : Nat → Prop) (m : Nat → Option Value) (heap : Nat → Slot) (w : World) (us : List Value), Mem w0 A S m heap w → (∀ p ∈ rds, heap p.1 = p.2) → RepL S m w xs us →
  RepL (fun b => b < w.heap.size ∧ ∀ v, m o = some v → blk v ≠ some b) (fun _ => none) w zs us
theorem seen_data (xs : List AV) (h : AV.okInL [] xs = true) {ob : AObj} {o : Nat} {rds : List (Nat × Slot)} (ho : (o, .live ob) ∈ rds) : SeenAs xs xs rds o := by
 intro w0 A S m heap w us hm hrd hr
 obtain ⟨v, h1, _, h3⟩ := hm.live o ob (hrd _ ho)
 have g : Grow S m w (fun b => b < w.heap.size ∧ ∀ v, m o = some v → blk v ≠ some b) m w := ⟨fun b hb => ⟨hm.sW b hb, fun v' hv hb' => by rw [h1] at hv; cases hv; exact h3 b hb' hb⟩, fun _ _ => rfl, fun _ _ h => h⟩
 exact RepL.unren (m := m) (K := []) (ρ := fun o => o) (fun o ho => by cases ho) _ _ h (by rw [zc0]; exact RepL.mono g _ _ hr)
section
variable {P : Program} {d : Option Tmp} {ty : TypeId} {pos : String} {af : Array Edge} {g : Option (Nat × Bool)} {x : Operand} {args : Array Operand} {ts : Array TypeId} {f : FuncId} {fn : Func}
theorem a_callR {xs cs zs : List AV} {rds : List (Nat × Slot)} {o o' n n' : Nat} {e size : Nat} {ps qs : List PV} (hf : P.funcs[f]? = some fn) (hb : fn.body.isNone = false) (hn : (fn.name == "runtime.NumGoroutine") = false)
 (hs : SeenAs (xs ++ cs) zs ((o, .live (.row e size n ps)) :: rds) o)
 (hC : ∀ (S : Nat → Prop) (w : World) (us : List Value), PRepL S w ps us → ∃ us', PRepL S w qs us' ∧ FnR P f (.row 0 :: zs) [(0, .row e size n (vs us))] (.row 1) [(1, .row e size n' (vs us'))]) :
 AOp P ⟨d, .call { callee := .value x, args := args, argTypes := ts }, ty, pos, af, g⟩ (.fn f cs :: .row o :: xs) ((o, .live (.row e size n ps)) :: (o', .un) :: rds) [(o', .live (.row e size n' qs)), (o, .dead)] (.row o') := by
 intro w0 A S m heap w ev hm hR hrd
 obtain ⟨us, e1, e2⟩ := ze2 hR
 have ho : heap o = .live (.row e size n ps) := hrd (o, _) qz
 have ho' : heap o' = .un := hrd (o', _) qz
 unfold Out
 rw [zdM hf hb hn e1]
 have e4 : args.map ev ++ us.toArray = ((args.map ev).toList ++ us).toArray := qz
 rw [e4]
 generalize (args.map ev).toList ++ us = L at e2
 simp only [qa2, RepL] at e2
 obtain ⟨u0, L, rfl, hr0, hrs⟩ := e2
 simp only [Rep] at hr0
 obtain ⟨hr0, hr1⟩ := hr0
 obtain ⟨v, k1, ⟨uc, j1, j2⟩, k3⟩ := hm.live o _ ho
 rw [hr0] at k1
 obtain rfl := Option.some.inj k1
 have hrs' := hs w0 A S m heap w L hm (fun p hp => hrd p (by
  rcases qaI.1 hp with rfl | hp
  ·simp
  ·simp [hp])) hrs
 obtain ⟨Sc, hSc⟩ : ∃ Sc : Nat → Prop, Sc = fun b => b < w.heap.size ∧ blk u0 ≠ some b := ⟨_, rfl⟩
 have hSe : (fun b => b < w.heap.size ∧ ∀ v, m o = some v → blk v ≠ some b) = Sc := by
  rw [hSc]; funext b
  exact propext ⟨fun h => ⟨h.1, h.2 u0 hr0⟩, fun h => ⟨h.1, fun v hv => by rw [hr0] at hv; cases hv; exact h.2⟩⟩
 rw [hSe] at hrs'
 obtain ⟨mc, hmc⟩ : ∃ mc : Nat → Option Value, mc = fun k => if k = 0 then some u0 else none := ⟨_, rfl⟩
 have hmem : Mem w0 (fun _ => True) Sc mc (zaT [(0, .row e size n (vs uc))]) w := by
  refine ⟨hm.bel, fun b _ => .inl trivial, fun b hb => by rw [hSc] at hb; exact hb.1, fun q hq => ?_, fun q ob hq => ?_, fun q q' ob ob' v v' b hq hq' hv hv' hb hb' => ?_, hm.gl⟩
  ·have := zfp hq
   rw [hmc]; exact if_neg (by simpa using this)
  ·have := za7 hq
   simp only [qaI, qbr, or_false, Prod.mk.injEq] at this
   obtain ⟨rfl, rfl⟩ := this
   exact ⟨u0, by rw [hmc]; simp, ⟨uc, vs_rep j1.one, j2⟩, fun b hb hS => by rw [hSc] at hS; exact hS.2 hb⟩
  ·have h1 := za7 hq
   have h2 := za7 hq'
   simp only [qaI, qbr, or_false, Prod.mk.injEq] at h1 h2
   rw [h1.1, h2.1]
 have hargs : RepL Sc mc w (.row 0 :: zs) (u0 :: L) := by
  simp only [RepL, Rep]
  exact ⟨u0, L, rfl, ⟨by rw [hmc]; simp, hr1⟩, RepL.mono ⟨fun _ h => h, fun _ _ => rfl, fun o v h => by cases h⟩ _ _ hrs'⟩
 obtain ⟨uq, hq, hCC⟩ := hC S w uc j1
 refine (hCC w0 (fun _ => True) Sc mc w (u0 :: L) hmem hargs).mono fun en w' ⟨v, he, S', m', q1, q2, q3⟩ => ⟨v, he, ?_⟩
 simp only [Rep] at q1
 obtain ⟨q1, q1'⟩ := q1
 obtain ⟨v1, i1, ⟨uq', i2, i3⟩, i4⟩ := q2.live 1 _ rfl
 rw [q1] at i1
 obtain rfl := Option.some.inj i1
 obtain rfl := rep_vs i2
 have hst : ∀ k, k < w.heap.size → blk u0 ≠ some k → w'.heap[k]? = w.heap[k]? ∧ blk v ≠ some k := fun k hk hb => by
  have := q3 k (by rw [hSc]; exact ⟨hk, hb⟩)
  exact ⟨this.2, fun h => i4 k h this.1⟩
 have gS : ∀ b, S b → w'.heap[b]? = w.heap[b]? := fun b hS => (hst b (hm.sW b hS) (fun e => k3 b e hS)).1
 obtain ⟨f1, f2⟩ := zhQ hm (o := o) (d := o') (v := u0) (v' := v) (ob' := .row e size n' qs) ho ho' hr0 q2.bel gS
  (fun x obx u b hxo hx hmx hb => by
   obtain ⟨u', a1, a2, _⟩ := hm.live x obx hx
   rw [hmx] at a1; cases a1
   exact hst b (a2.lt hb).2 fun hb0 => hxo (hm.inj _ _ _ _ _ _ _ hx ho hmx hr0 hb hb0))
  (fun b hb hS => (hst b (hm.sW b hS) (fun e => k3 b e hS)).2 hb)
  ⟨_, PRepL.mono (fun _ h => h) gS _ _ hq, i3⟩
 exact ⟨S, _, by simp only [Rep]; exact ⟨by simp [setM], q1'⟩, f1, f2⟩
theorem a_callR2 {y : PV} {o o2 o' n n' : Nat} {e size bt : Nat} {ps qs : List PV} {ys : List AV} (hf : P.funcs[f]? = some fn) (hb : fn.body.isNone = false) (hn : (fn.name == "runtime.NumGoroutine") = false)
 (hy : y.isV = true) (hys : AV.okInL [] ys = true) (hne : o ≠ o2)
 (hC : ∀ (S : Nat → Prop) (w : World) (us : List Value), PRepL S w ps us → ∃ us', PRepL S w qs us' ∧ FnR P f [.row 0, .p y, .psl 1 0 1 size] [(0, .row e size n (vs us)), (1, .box bt ys)] (.row 2) [(2, .row e size n' (vs us'))]) :
 AOp P ⟨d, .call { callee := .value x, args := args, argTypes := ts }, ty, pos, af, g⟩ [.fn f [], .row o, .p y, .psl o2 0 1 size] [(o, .live (.row e size n ps)), (o', .un), (o2, .live (.box bt ys))] [(o', .live (.row e size n' qs)), (o, .dead), (o2, .dead)] (.row o') := by
 intro w0 A S m heap w ev hm hR hrd
 obtain ⟨us, e1, e2⟩ := ze2 hR
 have ho : heap o = .live (.row e size n ps) := hrd (o, _) qz
 have ho' : heap o' = .un := hrd (o', _) qz
 have ho2 : heap o2 = .live (.box bt ys) := hrd (o2, _) qz
 unfold Out
 rw [zdM hf hb hn e1]
 have e4 : args.map ev ++ us.toArray = ((args.map ev).toList ++ us).toArray := qz
 rw [e4]
 generalize (args.map ev).toList ++ us = L at e2
 simp only [qa2, qbc, RepL] at e2
 obtain ⟨u0, _, rfl, hr0, u1, _, rfl, hrs, u2, _, rfl, hr2, rfl⟩ := e2
 simp only [Rep] at hr0 hr2
 obtain ⟨hr0, hr1⟩ := hr0
 obtain ⟨v, k1, ⟨uc, j1, j2⟩, k3⟩ := hm.live o _ ho
 rw [hr0] at k1
 obtain rfl := Option.some.inj k1
 obtain ⟨a2, c2, rfl, d1, d2⟩ := hr2
 obtain ⟨b2, v2, d3, d4, rfl⟩ : ∃ b v0, m o2 = some v0 ∧ blk v0 = some b ∧ a2 = some ⟨b, 0, none⟩ := by
  rcases d2 with d2 | d2
  ·omega
  ·exact d2
 obtain ⟨v2', g1, g2, g3⟩ := hm.live o2 _ ho2
 rw [d3] at g1; cases g1
 obtain ⟨Sc, hSc⟩ : ∃ Sc : Nat → Prop, Sc = fun b => b < w.heap.size ∧ blk u0 ≠ some b ∧ blk v2 ≠ some b := ⟨_, rfl⟩
 obtain ⟨mc, hmc⟩ : ∃ mc : Nat → Option Value, mc = fun k => if k = 0 then some u0 else if k = 1 then some v2 else none := ⟨_, rfl⟩
 have hmc0 : mc 0 = some u0 := by rw [hmc]; simp
 have hmc1 : mc 1 = some v2 := by rw [hmc]; simp
 have hSS : ∀ b, S b → Sc b := fun b hS => by rw [hSc]; exact ⟨hm.sW b hS, fun h => k3 b h hS, fun h => g3 b h hS⟩
 have hmem : Mem w0 (fun _ => True) Sc mc (zaT [(0, .row e size n (vs uc)), (1, .box bt ys)]) w := by
  refine ⟨hm.bel, fun b _ => .inl trivial, fun b hb => by rw [hSc] at hb; exact hb.1, fun q hq => ?_, fun q ob hq => ?_, fun q q' ob ob' v v' b hq hq' hv hv' hb hb' => ?_, hm.gl⟩
  ·have := zfp hq
   simp only [qaF, qbY, qaI, qbr, or_false, not_or] at this
   rw [hmc]; simp only [if_neg this.1, if_neg this.2]
  ·have := za7 hq
   simp only [qaI, qbr, or_false, Prod.mk.injEq] at this
   rcases this with ⟨rfl, rfl⟩ | ⟨rfl, rfl⟩
   ·exact ⟨u0, hmc0, ⟨uc, vs_rep j1.one, j2⟩, fun b hb hS => by rw [hSc] at hS; exact hS.2.1 hb⟩
   ·obtain ⟨b', ub, rfl, l1, l2, l3, l4⟩ := g2
    exact ⟨_, hmc1, ⟨b', ub, rfl, l1, RepL.unren (m := m) (K := []) (ρ := fun o => o) (fun o ho => by cases ho) _ _ hys (by rw [zc0]; exact RepL.mono ⟨hSS, fun _ _ => rfl, fun _ _ h => h⟩ _ _ l2), l3, l4⟩, fun b hb hS => by rw [hSc] at hS; exact hS.2.2 hb⟩
  ·have h1 := za7 hq
   have h2 := za7 hq'
   simp only [qaI, qbr, or_false, Prod.mk.injEq] at h1 h2
   rcases h1 with ⟨rfl, rfl⟩ | ⟨rfl, rfl⟩ <;> rcases h2 with ⟨rfl, rfl⟩ | ⟨rfl, rfl⟩
   ·rfl
   ·rw [hmc0] at hv; rw [hmc1] at hv'; cases hv; cases hv'
    exact absurd (hm.inj _ _ _ _ _ _ _ ho ho2 hr0 d3 hb hb') hne
   ·rw [hmc1] at hv; rw [hmc0] at hv'; cases hv; cases hv'
    exact absurd (hm.inj _ _ _ _ _ _ _ ho ho2 hr0 d3 hb' hb) hne
   ·rfl
 have hargs : RepL Sc mc w [.row 0, .p y, .psl 1 0 1 size] [u0, u1, .slice (some ⟨b2, 0, none⟩) 1 c2] := by
  simp only [RepL]
  refine ⟨u0, _, rfl, by simp only [Rep]; exact ⟨hmc0, hr1⟩, u1, _, rfl, ?_, _, _, rfl, by simp only [Rep]; exact ⟨_, _, rfl, d1, .inr ⟨b2, v2, hmc1, d4, rfl⟩⟩, rfl⟩
  simp only [Rep] at hrs ⊢
  exact PRep.mono hSS (fun _ _ => rfl) _ _ hrs
 obtain ⟨uq, hq, hCC⟩ := hC S w uc j1
 refine (hCC w0 (fun _ => True) Sc mc w _ hmem hargs).mono fun en w' ⟨v, he, S', m', q1, q2, q3⟩ => ⟨v, he, ?_⟩
 simp only [Rep] at q1
 obtain ⟨q1, q1'⟩ := q1
 obtain ⟨v1, i1, ⟨uq', i2, i3⟩, i4⟩ := q2.live 2 _ rfl
 rw [q1] at i1
 obtain rfl := Option.some.inj i1
 obtain rfl := rep_vs i2
 have hst : ∀ k, k < w.heap.size → blk u0 ≠ some k → blk v2 ≠ some k → w'.heap[k]? = w.heap[k]? ∧ blk v ≠ some k := fun k hk hb hb2 => by
  have := q3 k (by rw [hSc]; exact ⟨hk, hb, hb2⟩)
  exact ⟨this.2, fun h => i4 k h this.1⟩
 have hSk : ∀ b, S b → w'.heap[b]? = w.heap[b]? ∧ blk v ≠ some b := fun b hS => hst b (hm.sW b hS) (fun e => k3 b e hS) (fun e => g3 b e hS)
 have hmd := ziu hm o2
 have hdn : ∀ x obx, updL heap [(o2, .dead)] x = .live obx → x ≠ o2 ∧ heap x = .live obx := fun x obx hx => by
  by_cases e : x = o2
  ·subst e; simp [updL] at hx
  ·simp only [updL, nbeq e, cond_false] at hx; exact ⟨e, hx⟩
 have hon : o' ≠ o2 := fun e => by rw [e, ho2] at ho'; cases ho'
 obtain ⟨f1, f2⟩ := zhQ hmd (o := o) (d := o') (v := u0) (v' := v) (ob' := .row e size n' qs) (by simp only [updL, nbeq hne, cond_false]; exact ho) (by simp only [updL, nbeq hon, cond_false]; exact ho') hr0 q2.bel (fun b hS => (hSk b hS).1)
  (fun x obx u b hxo hx hmx hb => by
   obtain ⟨hx2, hx⟩ := hdn x obx hx
   obtain ⟨u', a1, a2, _⟩ := hm.live x obx hx
   rw [hmx] at a1; cases a1
   exact hst b (a2.lt hb).2 (fun hb0 => hxo (hm.inj _ _ _ _ _ _ _ hx ho hmx hr0 hb hb0)) (fun hb0 => hx2 (hm.inj _ _ _ _ _ _ _ hx ho2 hmx d3 hb hb0)))
  (fun b hb hS => (hSk b hS).2 hb)
  ⟨_, PRepL.mono (fun _ h => h) (fun b hS => (hSk b hS).1) _ _ hq, i3⟩
 refine ⟨S, _, by simp only [Rep]; exact ⟨by simp [setM], q1'⟩, ?_, f2⟩
 have : updL (updL heap [(o2, .dead)]) [(o', .live (.row e size n' qs)), (o, .dead)] = updL heap [(o', .live (.row e size n' qs)), (o, .dead), (o2, .dead)] := by
  funext k; simp only [updL]
 rw [← this]
 exact f1
end
end Go.Proofs.YtlfjpippeeikdaaGreatDoor
