/- Rows of peers whose nets are one's own: seen by callees, given up; names of many. -/
import Derived.Test.YtkdfdcodkeclmaaGreatDoorSRc
import Derived.Test.YtkdfdcodkeclmaaGreatDoorSAp2
namespace Go.Proofs.YtkdfdcodkeclmaaGreatDoor
open Go.RowKit Go.Sort
set_option linter.unusedVariables false
set_option linter.unusedSimpArgs false
inductive CellV (fam : List (Nat × Slot)) : List AV → List PV → Prop
 | nil : CellV fam [] []
 | p (x : PV) (cs : List AV) (ps : List PV) : CellV fam cs ps → CellV fam (.p x :: cs) (x :: ps)
 | row (o : Nat) (e size n : Nat) (qs : List PV) (cs : List AV) (ps : List PV) : (o, Slot.live (.row e size n qs)) ∈ fam → CellV fam cs ps → CellV fam (.row o :: cs) (.sl n size qs :: ps)
theorem CellV.append {fam : List (Nat × Slot)} {cs ds : List AV} {ps qs : List PV} (h : CellV fam cs ps) (k : CellV fam ds qs) : CellV fam (cs ++ ds) (ps ++ qs) := by
 induction h with
 | nil => exact k
 | p x cs ps _ ih => exact .p x _ _ ih
 | row o e size n q cs ps h1 _ ih => exact .row o e size n q _ _ h1 ih
theorem CellV.mono {fam fam' : List (Nat × Slot)} (hs : ∀ p ∈ fam, p ∈ fam') {cs : List AV} {ps : List PV} (h : CellV fam cs ps) : CellV fam' cs ps := by
 induction h with
 | nil => exact .nil
 | p x cs ps _ ih => exact .p x _ _ ih
 | row o e size n q cs ps h1 _ ih => exact .row o e size n q _ _ (hs _ h1) ih
section
variable {w0 : World} {A S T : Nat → Prop} {m : Nat → Option Value} {heap : Nat → Slot} {w : World} {fam : List (Nat × Slot)}
theorem zeH (hm : Mem w0 A S m heap w) (hS : ∀ b, S b → T b) {o e size n : Nat} {qs : List PV} (ho : heap o = .live (.row e size n qs)) (hT : ∀ v b, m o = some v → blk v = some b → T b) {u : Value} (hr : m o = some u) : PRep T w (.sl n size qs) u := by
 obtain ⟨v, h1, ⟨us, h2, h3⟩, _⟩ := hm.live o _ ho
 rw [hr] at h1
 obtain rfl := Option.some.inj h1
 have hl := h2.length
 have hr2 := fun b hb => zbv h3 (b := b) hb
 simp only [PRep]
 rcases h3.2 with ⟨rfl, rfl⟩ | ⟨g, cap, cur, fz, rfl, _, hh, _, h8, h9, _, h10⟩
 ·exact ⟨none, 0, us, rfl, Nat.le_refl _, by rw [← hl, h3.1], PRepL.mono hS (fun _ _ => rfl) _ _ h2, .inl rfl⟩
 ·exact ⟨some ⟨g, 0, none⟩, cap, us, rfl, h8, by rw [← hl, h3.1], PRepL.mono hS (fun _ _ => rfl) _ _ h2, .inr ⟨g, 0, rfl, hT _ g hr rfl, hr2 g rfl⟩⟩
theorem cellV_rep (hm : Mem w0 A S m heap w) (hS : ∀ b, S b → T b) (hfam : ∀ p ∈ fam, heap p.1 = p.2) (hT : ∀ p ∈ fam, ∀ v b, m p.1 = some v → blk v = some b → T b) {cs : List AV} {ps : List PV} (h : CellV fam cs ps) : ∀ {us : List Value}, RepL S m w cs us → PRepL T w ps us := by
 induction h with
 | nil => intro us h; simpa only [RepL, PRepL] using h
 | p x cs ps _ ih =>
  intro us h
  simp only [RepL, PRepL, Rep] at h ⊢
  obtain ⟨u, us, rfl, h1, h2⟩ := h
  exact ⟨u, us, rfl, PRep.mono hS (fun _ _ => rfl) _ _ h1, ih h2⟩
 | row o e size n qs cs ps h1 _ ih =>
  intro us h
  simp only [RepL, PRepL, Rep] at h ⊢
  obtain ⟨u, us, rfl, ⟨h2, _⟩, h3⟩ := h
  exact ⟨u, us, rfl, zeH hm hS (hfam _ h1) (fun v b hv hb => hT _ h1 v b hv hb) h2, ih h3⟩
theorem rowA_rep (hm : Mem w0 A S m heap w) (hS : ∀ b, S b → T b) (hfam : ∀ p ∈ fam, heap p.1 = p.2) (hT : ∀ p ∈ fam, ∀ v b, m p.1 = some v → blk v = some b → T b) {o e size n : Nat} {c : Option Nat} {cs : List AV} {ps : List PV} (h : CellV fam cs ps)
  (ho : heap o = .live (.rowA e size n c cs)) (hTo : ∀ v b, m o = some v → blk v = some b → T b) {u : Value} (hr : m o = some u) : PRep T w (.sl n size ps) u := by
 obtain ⟨v, h1, ⟨us, h2, h3, _⟩, _⟩ := hm.live o _ ho
 rw [hr] at h1
 obtain rfl := Option.some.inj h1
 have h4 := cellV_rep hm hS hfam hT h h2
 have hl := h4.length
 have hr2 := fun b hb => zbv h3 (b := b) hb
 simp only [PRep]
 rcases h3.2 with ⟨rfl, rfl⟩ | ⟨g, cap, cur, fz, rfl, _, hh, _, h8, h9, _, h10⟩
 ·exact ⟨none, 0, us, rfl, Nat.le_refl _, by rw [← hl, h3.1], h4, .inl rfl⟩
 ·exact ⟨some ⟨g, 0, none⟩, cap, us, rfl, h8, by rw [← hl, h3.1], h4, .inr ⟨g, 0, rfl, hTo _ g hr rfl, hr2 g rfl⟩⟩
end
section
variable {P : Program} {d : Option Tmp} {ty : TypeId} {pos : String} {af : Array Edge} {g : Option (Nat × Bool)} {x : Operand} {args : Array Operand} {ts : Array TypeId} {f : FuncId} {fn : Func}
theorem a_callD {k1 k2 y : PV} {o e size n : Nat} {c : Option Nat} {cs : List AV} {ps : List PV} {fam : List (Nat × Slot)} {res : AV} (hf : P.funcs[f]? = some fn) (hb : fn.body.isNone = false) (hn : (fn.name == "runtime.NumGoroutine") = false)
  (hV : CellV fam cs ps) (hl : fam.all (fun p => match p.2 with | .live _ => true | _ => false) = true) (hC : Fn P f [.agg [.p k1, .p k2, .p (.sl n size ps)], .p y] res []) (h1 : res.noSl = true) (h3 : res.okIn [] = true) :
  AOp P ⟨d, .call { callee := .value x, args := args, argTypes := ts }, ty, pos, af, g⟩ [.fn f [], .agg [.p k1, .p k2, .row o], .p y] ((o, .live (.rowA e size n c cs)) :: fam) [] res := by
 intro w0 A S m heap w ev hm hR hrd
 obtain ⟨us, e1, e2⟩ := zdW hR
 unfold Out
 rw [zc2 hf hb hn e1]
 have e4 : args.map ev ++ us.toArray = ((args.map ev).toList ++ us).toArray := by simp
 rw [e4]
 generalize (args.map ev).toList ++ us = L at e2
 have ho : heap o = .live (.rowA e size n c cs) := hrd (o, _) (by simp)
 have hfam : ∀ p ∈ fam, heap p.1 = p.2 := fun p hp => hrd p (by simp [hp])
 have hTl : ∀ o ob v b, heap o = .live ob → m o = some v → blk v = some b → b < w.heap.size := fun o ob v b h1 h2 h3 => by
  obtain ⟨v', k1, k2, _⟩ := hm.live o ob h1
  rw [h2] at k1; cases k1
  exact (k2.lt h3).2
 have hT : ∀ p ∈ fam, ∀ v b, m p.1 = some v → blk v = some b → b < w.heap.size := fun p hp v b h2 h3 => by
  have := List.all_eq_true.1 hl p hp
  have h1 := hfam p hp
  cases hs : p.2 with
  | live ob => exact hTl p.1 ob v b (h1.trans hs) h2 h3
  | un => rw [hs] at this; cases this
  | dead => rw [hs] at this; cases this
 have e3 : RepL (fun b => b < w.heap.size) (fun _ => none) w [.agg [.p k1, .p k2, .p (.sl n size ps)], .p y] L := by
  simp only [List.append_nil, RepL, Rep] at e2 ⊢
  obtain ⟨u, _, rfl, ⟨ua, rfl, ⟨v1, _, rfl, q1, v2, _, rfl, q2, v3, _, rfl, ⟨q3, _⟩, rfl⟩, q4⟩, u2, _, rfl, q5, rfl⟩ := e2
  have hs : ∀ b, S b → b < w.heap.size := fun b hb => hm.sW b hb
  exact ⟨_, _, rfl, ⟨_, rfl, ⟨v1, _, rfl, PRep.mono hs (fun _ _ => rfl) _ _ q1, v2, _, rfl, PRep.mono hs (fun _ _ => rfl) _ _ q2, v3, _, rfl, rowA_rep hm hs hfam hT hV ho (fun v b h2 h3 => hTl o _ v b ho h2 h3) q3, rfl⟩, q4⟩, u2, _, rfl, PRep.mono hs (fun _ _ => rfl) _ _ q5, rfl⟩
 have hcall := hC w (fun b => b < w.heap.size) _ (fun b h => h) (hm.gl.below hm.bel) e3
 refine hcall.mono fun en w' ⟨v, he, S', m', hres, hk⟩ => ⟨v, he, ?_⟩
 obtain ⟨m2, k1, k2, k3⟩ := zeb (S2 := S) (news := []) (fun o => o) hm hk (Rep.noSl _ _ h1 hres) (fun o ob u ho hr => by cases ho) (fun b h => h) (fun b h => .inl h) (fun k hk => by cases hk) rfl rfl h3
 rw [zgg] at k1
 exact ⟨S, m2, k1, k2, k3⟩
end
theorem zfr {h : Nat → Slot} : ∀ {l : List (Nat × Slot)} {o : Nat}, (updL h (l.map fun p => (p.1, Slot.dead)) o = .dead ∧ o ∈ l.map Prod.fst) ∨ (updL h (l.map fun p => (p.1, Slot.dead)) o = h o ∧ o ∉ l.map Prod.fst)
 | [], o => .inr ⟨rfl, by simp⟩
 | (n, s) :: l, o => by
  by_cases e : o = n
  ·subst e; exact .inl ⟨by simp [updL], by simp⟩
  ·rcases zfr (h := h) (l := l) (o := o) with ⟨h1, h2⟩ | ⟨h1, h2⟩
   ·exact .inl ⟨by simp only [List.map_cons, updL, nbeq e, cond_false]; exact h1, by simp [h2]⟩
   ·exact .inr ⟨by simp only [List.map_cons, updL, nbeq e, cond_false]; exact h1, by simp only [List.map_cons, List.mem_cons, not_or]; exact ⟨e, h2⟩⟩
theorem zc4 {st : St} {fam : List (Nat × Slot)} {o e size n : Nat} {c : Option Nat} {cs : List AV} {ps : List PV} (hV : CellV fam cs ps) (hfam : ∀ p ∈ fam, st.heap p.1 = p.2) (hl : fam.all (fun p => match p.2 with | .live _ => true | _ => false) = true)
  (ho : st.heap o = .live (.rowA e size n c cs)) (hno : o ∉ fam.map Prod.fst) : ReO st ⟨st.tmps, updL st.heap ((o, .live (.row e size n ps)) :: fam.map fun p => (p.1, .dead))⟩ := by
 rintro w0 A nt a w ⟨⟨S, m, hm, hj, hr⟩, hsz, hd⟩
 have hlive : ∀ p ∈ fam, ∃ ob, st.heap p.1 = .live ob := fun p hp => by
  have := List.all_eq_true.1 hl p hp
  have h1 := hfam p hp
  cases hs : p.2 with
  | live ob => exact ⟨ob, h1.trans hs⟩
  | un => rw [hs] at this; cases this
  | dead => rw [hs] at this; cases this
 obtain ⟨S', hS'⟩ : ∃ S' : Nat → Prop, S' = fun b => S b ∨ ∃ p ∈ fam, ∃ v, m p.1 = some v ∧ blk v = some b := ⟨_, rfl⟩
 have hs : ∀ b, S b → S' b := fun b hb => by rw [hS']; exact .inl hb
 have hTf : ∀ p ∈ fam, ∀ v b, m p.1 = some v → blk v = some b → S' b := fun p hp v b h1 h2 => by rw [hS']; exact .inr ⟨p, hp, v, h1, h2⟩
 have g : Grow S m w S' m w := ⟨hs, fun _ _ => rfl, fun _ _ h => h⟩
 have hold : ∀ x ob, updL st.heap ((o, .live (.row e size n ps)) :: fam.map fun p => (p.1, .dead)) x = .live ob → x ≠ o → st.heap x = .live ob ∧ x ∉ fam.map Prod.fst := fun x ob hx hne => by
  simp only [updL, nbeq hne, cond_false] at hx
  rcases zfr (h := st.heap) (l := fam) (o := x) with ⟨h1, _⟩ | ⟨h1, h2⟩
  ·rw [h1] at hx; cases hx
  ·rw [h1] at hx; exact ⟨hx, h2⟩
 have hnS : ∀ x ob v b, st.heap x = .live ob → x ∉ fam.map Prod.fst → m x = some v → blk v = some b → ¬ S' b := fun x ob v b hx hnf hv hb hS => by
  obtain ⟨v', k1, _, k3⟩ := hm.live x ob hx
  rw [hv] at k1; cases k1
  rw [hS'] at hS
  rcases hS with hS | ⟨p, hp, v', h1, h2⟩
  ·exact k3 b hb hS
  ·obtain ⟨ob', hob⟩ := hlive p hp
   have := hm.inj _ _ _ _ _ _ _ hx hob hv h1 hb h2
   exact hnf (List.mem_map.2 ⟨p, hp, this.symm⟩)
 refine ⟨⟨S', m, ⟨hm.bel, ?_, ?_, ?_, ?_, ?_, hm.gl⟩, A.up _ _ _ _ _ _ g hj, fun k => Rep.mono g _ _ (hr k)⟩, hsz, hd⟩
 ·intro b hb
  rw [hS'] at hb
  rcases hb with hb | ⟨p, hp, v, h1, h2⟩
  ·exact hm.sA b hb
  ·obtain ⟨ob, hob⟩ := hlive p hp
   obtain ⟨v', k1, k2, _⟩ := hm.live _ _ hob
   rw [h1] at k1; cases k1
   exact .inr (k2.lt h2).1
 ·intro b hb
  rw [hS'] at hb
  rcases hb with hb | ⟨p, hp, v, h1, h2⟩
  ·exact hm.sW b hb
  ·obtain ⟨ob, hob⟩ := hlive p hp
   obtain ⟨v', k1, k2, _⟩ := hm.live _ _ hob
   rw [h1] at k1; cases k1
   exact (k2.lt h2).2
 ·intro x hx
  by_cases e1 : x = o
  ·subst e1; simp [updL] at hx
  ·simp only [updL, nbeq e1, cond_false] at hx
   rcases zfr (h := st.heap) (l := fam) (o := x) with ⟨h1, _⟩ | ⟨h1, h2⟩
   ·rw [h1] at hx; cases hx
   ·rw [h1] at hx; exact hm.un x hx
 ·intro x ob hx
  by_cases e1 : x = o
  ·subst e1
   simp only [updL, Nat.beq_refl, cond_true, Slot.live.injEq] at hx
   subst hx
   obtain ⟨v, h1, ⟨us, h2, h3, _⟩, h4⟩ := hm.live x _ ho
   exact ⟨v, h1, ⟨us, cellV_rep hm hs hfam hTf hV h2, h3⟩, fun b hb => hnS x _ v b ho hno h1 hb⟩
  ·obtain ⟨h1, h2⟩ := hold x ob hx e1
   obtain ⟨v, k1, k2, k3⟩ := hm.live x ob h1
   exact ⟨v, k1, k2.mono g fun _ _ => rfl, fun b hb => hnS x ob v b h1 h2 k1 hb⟩
 ·intro x y ob1 ob2 v1 v2 b h1 h2 h3 h4 h5 h6
  have key : ∀ z obz, updL st.heap ((o, .live (.row e size n ps)) :: fam.map fun p => (p.1, .dead)) z = .live obz → ∃ ob', st.heap z = .live ob' := fun z obz hz => by
   by_cases e1 : z = o
   ·subst e1; exact ⟨_, ho⟩
   ·exact ⟨_, (hold z obz hz e1).1⟩
  obtain ⟨_, g1⟩ := key _ _ h1
  obtain ⟨_, g2⟩ := key _ _ h2
  exact hm.inj _ _ _ _ _ _ _ g1 g2 h3 h4 h5 h6
end Go.Proofs.YtkdfdcodkeclmaaGreatDoor
/- apply.peer and apply.move, over data: a configuration of one's own, its nets too. -/
namespace Go.Proofs.YtkdfdcodkeclmaaGreatDoor
open Tryz
open Go.RowKit Go.Sort
set_option linter.unusedVariables false
set_option linter.unusedSimpArgs false
set_option maxRecDepth 100000
def pcA (p : PE) (o : Nat) : List AV := [.p (.v (.string p.key)), .p (.v (.string p.sh)), .p (.v (.string p.ep)), .p (.v (.int .i64 p.al)), .row o]
def pcs (nm : Nat → Nat) : Nat → List PE → List AV
 | _, [] => []
 | k, p :: l => pcA p (nm k) ++ pcs nm (k + 1) l
def nrow (p : PE) : Slot := .live (.row 27 2 p.nets.length (p.nets.flatMap ntC))
def fams (nm : Nat → Nat) : Nat → List PE → List (Nat × Slot)
 | _, [] => []
 | k, p :: l => (nm k, nrow p) :: fams nm (k + 1) l
theorem pcs_V (nm : Nat → Nat) : ∀ (l : List PE) (k : Nat), CellV (fams nm k l) (pcs nm k l) (l.flatMap PE.pv)
 | [], k => .nil
 | p :: l, k => by
  rw [pcs, fams, List.flatMap_cons]
  refine CellV.append ?_ ((pcs_V nm l (k + 1)).mono fun x hx => List.mem_cons_of_mem _ hx)
  exact .p _ _ _ (.p _ _ _ (.p _ _ _ (.p _ _ _ (.row _ _ _ _ _ _ _ (List.mem_cons_self ..) .nil))))
theorem zdr (nm : Nat → Nat) : ∀ (l : List PE) (k : Nat), (pcs nm k l).length = l.length * 5
 | [], k => rfl
 | p :: l, k => by rw [pcs, List.length_append, zdr nm l (k + 1), List.length_cons]; simp [pcA]; omega
theorem zb0 {nm : Nat → Nat} : ∀ {l : List PE} {k : Nat} {q : Nat × Slot}, q ∈ fams nm k l ↔ ∃ i, ∃ h : i < l.length, q = (nm (k + i), nrow l[i])
 | [], k, q => by simp [fams]
 | p :: l, k, q => by
  rw [fams, List.mem_cons, zb0 (l := l)]
  constructor
  ·rintro (rfl | ⟨i, h, rfl⟩)
   ·exact ⟨0, by simp, by simp⟩
   ·exact ⟨i + 1, by simpa using h, by simp [Nat.add_assoc, Nat.add_comm 1 i]⟩
  ·rintro ⟨i, h, rfl⟩
   cases i with
   | zero => exact .inl (by simp)
   | succ i => exact .inr ⟨i, by simpa using h, by simp [Nat.add_assoc, Nat.add_comm 1 i]⟩
theorem zdv (nm : Nat → Nat) : ∀ (l : List PE) (k : Nat), (fams nm k l).all (fun p => match p.2 with | .live _ => true | _ => false) = true
 | [], k => rfl
 | p :: l, k => by rw [fams, List.all_cons, zdv nm l (k + 1)]; rfl
theorem pcs_at (nm : Nat → Nat) : ∀ (l : List PE) (k i : Nat), i < l.length → (pcs nm k l)[i * 5 + 4]? = some (.row (nm (k + i)))
 | p :: l, k, 0, _ => by rw [pcs]; simp [pcA]
 | p :: l, k, i + 1, h => by
  rw [pcs, List.getElem?_append_right (by simp [pcA]; omega)]
  rw [show (i + 1) * 5 + 4 - (pcA p (nm k)).length = i * 5 + 4 by simp [pcA]; omega]
  rw [pcs_at nm l (k + 1) i (by simpa using h), show k + 1 + i = k + (i + 1) by omega]
theorem zfB (nm : Nat → Nat) : ∀ (l m : List PE) (k : Nat), pcs nm k (l ++ m) = pcs nm k l ++ pcs nm (k + l.length) m
 | [], m, k => rfl
 | p :: l, m, k => by
  rw [List.cons_append, pcs, pcs, zfB nm l m (k + 1), List.append_assoc, List.length_cons]
  congr 3
  omega
theorem zds {nm nm' : Nat → Nat} : ∀ (l : List PE) (k : Nat), (∀ i, i < l.length → nm (k + i) = nm' (k + i)) → pcs nm k l = pcs nm' k l
 | [], k, _ => rfl
 | p :: l, k, h => by
  have h0 := h 0 (by simp)
  rw [Nat.add_zero] at h0
  have ih := zds (nm := nm) (nm' := nm') l (k + 1) fun i hi => by
   have := h (i + 1) (by simpa using hi)
   rwa [show k + (i + 1) = k + 1 + i by omega] at this
  show pcA p (nm k) ++ pcs nm (k + 1) l = pcA p (nm' k) ++ pcs nm' (k + 1) l
  rw [ih, h0]
theorem zcp {st : St} : ∀ {L : List (Nat × Slot)}, (∀ p ∈ L, st.heap p.1 = p.2) → Rds st L
 | [], _ => trivial
 | p :: L, h => ⟨h p (by simp), zcp fun q hq => h q (by simp [hq])⟩
theorem zbQ {h : Nat → Slot} {o q : Nat} {s : Slot} (hne : o ≠ q) : updL h [(q, s)] o = h o := by simp only [updL, nbeq hne, cond_false]
theorem zbB {h : Nat → Slot} : ∀ {L : List (Nat × Slot)}, (L.map Prod.fst).Nodup → ∀ p ∈ L, updL h L p.1 = p.2
 | [], _, p, hp => by cases hp
 | (n, s) :: L, hn, p, hp => by
  simp only [List.map_cons, List.nodup_cons] at hn
  rcases List.mem_cons.1 hp with rfl | hp
  ·simp [updL]
  ·have hne : p.1 ≠ n := fun e => hn.1 (e ▸ List.mem_map.2 ⟨p, hp, rfl⟩)
   simp only [updL, nbeq hne, cond_false]
   exact zbB hn.2 p hp
def D0 (key : ByteArray) (port : Int) : Slot := .live (.box 24 [.p (.v (.string key)), .p (.v (.int .i64 port)), .row 1])
set_option maxHeartbeats 4000000 in
theorem peerT_s (key : ByteArray) (port : Int) (l : List PE) (ok : CF.OK ⟨key, port, l⟩) (pt : ByteArray) (cs : List AV) (fam : List (Nat × Slot)) (hV : CellV fam cs (l.flatMap PE.pv)) (hl : fam.all (fun p => match p.2 with | .live _ => true | _ => false) = true)
  (hnd : ((0 :: 1 :: fam.map Prod.fst)).Nodup) (h0 : pt ≠ ⟨#[]⟩) (h1 : peN pt l < l.length) :
  FnO prog 51 [.ref 0 0, .p (.v (.string pt))] ((0, D0 key port) :: (1, .live (.rowA 60 5 l.length none cs)) :: fam) ((0, D0 key port) :: (1, .live (.rowA 60 5 l.length none cs)) :: fam) (.tup [.ref 1 (peN pt l * 5), .p (.v (.int .i64 0))]) := by
 have hF := ze6 ⟨key, port, l⟩ ok pt
 change Fn prog _ [.agg [.p (.v (.string key)), .p (.v (.int .i64 port)), .p (.sl l.length 5 (l.flatMap PE.pv))], _] (if peN pt l < l.length then _ else _) _ at hF
 rw [if_pos h1] at hF
 have hn := ok.len
 dsimp only at hn
 clear ok
 generalize l.flatMap PE.pv = L at *
 generalize peN pt l = N at *
 obtain ⟨fam', hfam'⟩ : ∃ f : List (Nat × Slot), (0, D0 key port) :: (1, .live (.rowA 60 5 l.length none cs)) :: fam = f := ⟨_, rfl⟩
 have hnd' : (fam'.map Prod.fst).Nodup := by rw [← hfam']; exact hnd
 rw [hfam']
 refine fnIO fun w0 A heap => ?_
 have hall := zbB (h := heap) hnd'
 have e0 : updL heap fam' 0 = D0 key port := hall (0, D0 key port) (by rw [← hfam']; exact List.mem_cons_self ..)
 have e1 : updL heap fam' 1 = .live (.rowA 60 5 l.length none cs) := hall (1, .live (.rowA 60 5 l.length none cs)) (by rw [← hfam']; exact List.mem_cons_of_mem _ (List.mem_cons_self ..))
 have e12 : ∀ p ∈ (1, Slot.live (.rowA 60 5 l.length none cs)) :: fam, updL heap fam' p.1 = p.2 := fun p hp => hall p (by rw [← hfam']; exact List.mem_cons_of_mem _ hp)
 obtain ⟨H, hH⟩ : ∃ H, updL heap fam' = H := ⟨_, rfl⟩
 rw [hH] at hall e0 e1 e12 ⊢
 unfold D0 at e0
 refine G [9] ?_
 refine zac (zbJ (es := [.p (.v (.string key)), .p (.v (.int .i64 port)), .row 1]) U24 rfl sz24 (Nat.le_of_ble_eq_true rfl) rfl) rfl rfl ⟨e0, trivial⟩ ?_
 refine mP rfl rfl ?_
 refine zac (a_callD (fam := fam) (ps := L) func79 rfl rfl hV hl hF rfl rfl) rfl rfl (zcp e12) ?_
 refine G [10] ?_
 refine zaa (zah (c := false) (by simp [h0])) rfl rfl ?_
 refine mP rfl rfl ?_
 (first | refine mP rfl rfl ?_ | refine za1 rfl ?_)
 (first | refine zaa a_neq rfl rfl ?_ | refine za1 rfl ?_)
 (first | refine zaa zf5 rfl rfl ?_ | refine zaa zf4 rfl rfl ?_)
 refine G [8] ?_
 refine zac (zcM U22 rfl rfl) rfl rfl ⟨e0, trivial⟩ ?_
 refine mP rfl rfl ?_
 refine zac (zay U22 sz60 (by omega) (by omega) (q := N * 5) (by rw [Int.toNat_natCast])) rfl rfl ⟨e1, trivial⟩ ?_
 refine G [4] ?_
 refine ⟨(by first | exact .inl rfl | exact .inr rfl), ⟨_, (.tmp _ _ _ _ rfl (.tmp _ _ _ _ rfl .nil)), ?_⟩, ?_, ?_⟩
 ·exact rfl
 ·exact zcp fun p hp => hall p hp
 ·intro o ho
  show H o = heap o
  rw [← hH]
  refine zar fun hm => ?_
  obtain ⟨p, hp, rfl⟩ := List.mem_map.1 hm
  have := List.any_eq_false.1 ho p hp
  simp at this
end Go.Proofs.YtkdfdcodkeclmaaGreatDoor
