/- The machine over data: a call that is handed own rows for good: its results may share them. -/
import Derived.Test.YtlfjpippeeikdaaGreatDoorSMa4
set_option linter.all false
namespace Go.Proofs.YtlfjpippeeikdaaGreatDoor
open Go.RowKit
def Slot.isLive : Slot → Bool
 | .live _ => true
 | _ => false
def zhD (rds : List (Nat × Slot)) : List (Nat × Slot) := rds.map fun p => (p.1, Slot.dead)
theorem zcT {h : Nat → Slot} : ∀ {l : List (Nat × Slot)} {o : Nat}, (updL h (zhD l) o = .dead ∧ o ∈ l.map Prod.fst) ∨ (updL h (zhD l) o = h o ∧ o ∉ l.map Prod.fst)
 | [], o => .inr ⟨rfl, qz⟩
 | (n, s) :: l, o => by
  by_cases e : o = n
  ·subst e; exact .inl ⟨by simp [zhD, updL], qz⟩
  ·have hu : updL h (zhD ((n, s) :: l)) o = updL h (zhD l) o := by
    show (bif Nat.beq o n then Slot.dead else updL h (zhD l) o) = _
    rw [nbeq e, cond_false]
   rw [hu]
   rcases zcT (h := h) (l := l) (o := o) with ⟨h1, h2⟩ | ⟨h1, h2⟩
   ·exact .inl ⟨h1, by simp [h2]⟩
   ·exact .inr ⟨h1, by simp only [qaF, qaI, not_or]; exact ⟨e, h2⟩⟩
theorem updL_app {h : Nat → Slot} : ∀ a b : List (Nat × Slot), updL (updL h b) a = updL h (a ++ b)
 | [], b => rfl
 | (n, s) :: l, b => by
  funext o
  show (bif Nat.beq o n then s else updL (updL h b) l o) = (bif Nat.beq o n then s else updL h (l ++ b) o)
  rw [updL_app l b]
theorem mem_kill {w0 : World} {A S : Nat → Prop} {m : Nat → Option Value} {heap : Nat → Slot} {w : World} {rds : List (Nat × Slot)} (hm : Mem w0 A S m heap w) (hrd : ∀ p ∈ rds, heap p.1 = p.2) (hl : rds.all (fun p => p.2.isLive) = true) :
 Mem w0 A (fun b => S b ∨ ∃ p ∈ rds, ∃ v, m p.1 = some v ∧ blk v = some b) m (updL heap (zhD rds)) w := by
 have key : ∀ p ∈ rds, ∃ ob v, heap p.1 = .live ob ∧ m p.1 = some v ∧ ORep w0.heap.size S m w ob v := fun p hp => by
  have h1 := qbd.1 hl p hp
  have h2 := hrd p hp
  cases hs : p.2 with
  | live ob =>
   rw [hs] at h2
   obtain ⟨v, k1, k2, _⟩ := hm.live _ _ h2
   exact ⟨ob, v, h2, k1, k2⟩
  | un => rw [hs] at h1; cases h1
  | dead => rw [hs] at h1; cases h1
 have hlt : ∀ p ∈ rds, ∀ v b, m p.1 = some v → blk v = some b → w0.heap.size ≤ b ∧ b < w.heap.size := fun p hp v b hv hb => by
  obtain ⟨ob, v', _, k2, k3⟩ := key p hp
  rw [hv] at k2; cases k2
  exact k3.lt hb
 refine ⟨hm.bel, ?_, ?_, ?_, ?_, ?_, hm.gl⟩
 ·rintro b (h | ⟨p, hp, v, hv, hb⟩)
  ·exact hm.sA b h
  ·exact .inr (hlt p hp v b hv hb).1
 ·rintro b (h | ⟨p, hp, v, hv, hb⟩)
  ·exact hm.sW b h
  ·exact (hlt p hp v b hv hb).2
 ·intro o ho
  rcases zcT (h := heap) (l := rds) (o := o) with ⟨h1, _⟩ | ⟨h1, _⟩
  ·rw [h1] at ho; cases ho
  ·rw [h1] at ho; exact hm.un o ho
 ·intro o ob ho
  rcases zcT (h := heap) (l := rds) (o := o) with ⟨h1, _⟩ | ⟨h1, h2⟩
  ·rw [h1] at ho; cases ho
  ·rw [h1] at ho
   obtain ⟨v, k1, k2, k3⟩ := hm.live o ob ho
   refine ⟨v, k1, ORep.mono ⟨fun _ h => .inl h, fun _ _ => rfl, fun _ _ h => h⟩ k2 fun _ _ => rfl, ?_⟩
   rintro b hb (h | ⟨p, hp, v', hv', hb'⟩)
   ·exact k3 b hb h
   ·obtain ⟨ob', _, q1, _, _⟩ := key p hp
    exact h2 (qaJ.2 ⟨p, hp, hm.inj _ _ _ _ _ _ b q1 ho hv' k1 hb' hb⟩)
 ·intro o o' ob ob' v v' b ho ho' hv hv' hb hb'
  rcases zcT (h := heap) (l := rds) (o := o) with ⟨h1, _⟩ | ⟨h1, _⟩
  ·rw [h1] at ho; cases ho
  rcases zcT (h := heap) (l := rds) (o := o') with ⟨h2, _⟩ | ⟨h2, _⟩
  ·rw [h2] at ho'; cases ho'
  rw [h1] at ho; rw [h2] at ho'
  exact hm.inj _ _ _ _ _ _ b ho ho' hv hv' hb hb'
section
variable {P : Program} {d : Option Tmp} {ty : TypeId} {pos : String} {af : Array Edge} {g : Option (Nat × Bool)} {x : Operand} {args : Array Operand} {ts : Array TypeId} {f : FuncId} {fn : Func}
theorem a_callW {xs cs : List AV} {rds : List (Nat × Slot)} {res : AV} {news : List (Nat × AObj)} (ρ : Nat → Nat) (hf : P.funcs[f]? = some fn) (hb : fn.body.isNone = false) (hn : (fn.name == "runtime.NumGoroutine") = false)
 (hC : Fn P f (AV.viewL (fun _ => false) (zcb rds) (xs ++ cs)) res news) (hl : rds.all (fun p => p.2.isLive) = true) (h3 : res.okIn (news.map Prod.fst) = true) (h4 : zbj (news.map Prod.fst) = true) (h5 : zbj (news.map fun p => ρ p.1) = true) :
 AOp P ⟨d, .call { callee := .value x, args := args, argTypes := ts }, ty, pos, af, g⟩ (.fn f cs :: xs) (rds ++ news.map fun p => (ρ p.1, .un)) (za4 ρ news ++ zhD rds) (res.ren ρ) := by
 intro w0 A S m heap w ev hm hR hrd
 obtain ⟨us, e1, e2⟩ := ze2 hR
 unfold Out
 rw [zdM hf hb hn e1]
 have hrd1 : ∀ p ∈ rds, heap p.1 = p.2 := fun p hp => hrd p qar
 have hk := mem_kill hm hrd1 hl
 have hO : ∀ o ob, zcb rds o = .live ob → ∃ v, m o = some v ∧ ORep w0.heap.size S m w ob v := fun o ob ho => by
  rcases zeM (heap := heap) (rds := rds) (o := o) (fun p hp => hrd1 p hp) with h | h
  ·rw [h] at ho; cases ho
  ·rw [h] at ho
   obtain ⟨v, k1, k2, _⟩ := hm.live o ob ho
   exact ⟨v, k1, k2⟩
 have hin : ∀ (l : List (Nat × Slot)) o ob, zcb l o = .live ob → ∃ p ∈ l, p.1 = o := by
  intro l
  induction l with
  | nil => intro o ob h; cases h
  | cons q l ih =>
   intro o ob h
   by_cases e : o = q.1
   ·exact ⟨q, qz, e.symm⟩
   ·simp only [zcb, updL, nbeq e, cond_false] at h
    obtain ⟨p, hp, rfl⟩ := ih o ob h
    exact ⟨p, by simp [hp], rfl⟩
 have hT : ∀ o ob v b, zcb rds o = .live ob → m o = some v → blk v = some b → (S b ∨ ∃ p ∈ rds, ∃ v, m p.1 = some v ∧ blk v = some b) := fun o ob v b ho hv hb => by
  obtain ⟨p, hp, rfl⟩ := hin rds o ob ho
  exact .inr ⟨p, hp, v, hv, hb⟩
 have hST : ∀ b, S b → (S b ∨ ∃ p ∈ rds, ∃ v, m p.1 = some v ∧ blk v = some b) := fun b h => .inl h
 have e3 := zdw (keep := fun _ => false) (T := fun b => S b ∨ ∃ p ∈ rds, ∃ v, m p.1 = some v ∧ blk v = some b) (m' := fun _ => none) hO hST
  (fun o off n size u _ hr => zdL hO hST (fun ob v b g1 g2 g3 => hT o ob v b g1 g2 g3) hr)
  (fun o u _ hr => zeP hO hST (fun ob v b g1 g2 g3 => hT o ob v b g1 g2 g3) hr) (fun o v hk => by cases hk) _ _ e2
 have hcall := hC w _ _ hk.sW (hk.gl.below hk.bel) e3
 have e4 : args.map ev ++ us.toArray = ((args.map ev).toList ++ us).toArray := qz
 rw [e4]
 refine hcall.mono fun e w' ⟨v, he, S', m', hres, hkk⟩ => ⟨v, he, ?_⟩
 generalize hS1 : (fun b => S b ∨ ∃ p ∈ rds, ∃ v, m p.1 = some v ∧ blk v = some b) = S1 at hk hkk
 have hsub : ∀ b, S' b → S1 b ∨ (S' b ∧ w.heap.size ≤ b) := fun b hb => (hkk.sA b hb).imp id fun h => ⟨hb, h⟩
 obtain ⟨m2, k1, k2, k3⟩ := zfi (S2 := fun b => S1 b ∨ (S' b ∧ w.heap.size ≤ b)) ρ hk hkk (Rep.mono ⟨hsub, fun _ _ => rfl, fun _ _ h => h⟩ _ _ hres) (fun o ob u ho hr => hr.mono ⟨hsub, fun _ _ => rfl, fun _ _ h => h⟩ fun _ _ => rfl) (fun b h => .inl h) (fun b h => h) (fun k hk2 => by
  obtain ⟨p, hp, rfl⟩ := qaJ.1 hk2
  have hu := hrd (ρ p.1, .un) (List.mem_append_right _ (qaJ.2 ⟨p, hp, rfl⟩))
  rcases zcT (h := heap) (l := rds) (o := ρ p.1) with ⟨_, h2⟩ | ⟨h1, _⟩
  ·exfalso
   obtain ⟨q, hq, hqe⟩ := qaJ.1 h2
   have a1 := hrd1 q hq
   have a2 := qbd.1 hl q hq
   rw [hqe] at a1
   rw [← a1, hu] at a2
   cases a2
  ·rw [h1]; exact hu) h4 h5 h3
 rw [updL_app] at k2
 refine ⟨_, m2, k1, k2, ?_⟩
 have g0 : Grow S m w S1 m w := ⟨fun b h => by rw [← hS1]; exact .inl h, fun _ _ => rfl, fun _ _ h => h⟩
 exact g0.trans k3
end
section
variable {P : Program} {ops : Array Oper} {K : List Foot → St → Prop} {l : List Oper} {fs : List Foot} {st : St} {d : Option Tmp} {ty : TypeId} {pos : String} {af : Array Edge} {gd : Option (Nat × Bool)}
theorem r_callW {x : Operand} {args : Array Operand} {ts : Array TypeId} {f : FuncId} {fn : Func} {zs cs : List AV} {res : AV} {news : List (Nat × AObj)} (ρ : Nat → Nat) (hC : Fn P f zs res news) (hx : st.ev x = .fn f cs) (hxs : AV.viewL (fun _ => false) st.heap (args.toList.map st.ev ++ cs) = zs) (hf : P.funcs[f]? = some fn) (hb : fn.body.isNone = false) (hn : (fn.name == "runtime.NumGoroutine") = false)
 {os : List Nat} (hos : AV.objsL (args.toList.map st.ev ++ cs) = os) (hl : (os.all fun o => (st.heap o).isLive) = true) (h3 : res.okIn (news.map Prod.fst) = true) (h4 : zbj (news.map Prod.fst) = true) (h5 : zbj (news.map fun p => ρ p.1) = true)
 (hun : Rds st (news.map fun p => (ρ p.1, .un))) (hg : zat ops ⟨d, .call { callee := .value x, args := args, argTypes := ts }, ty, pos, af, gd⟩ st = some true) {r : AV} (hr : res.ren ρ = r) {wrs : List (Nat × Slot)} (hw : za4 ρ news ++ os.map (fun o => (o, Slot.dead)) = wrs)
 (k : ARun P ops K l (fs ++ [(os ++ news.map (fun p => ρ p.1), news.map (fun p => ρ p.1) ++ os)]) ((st.upd wrs).put d r)) :
 ARun P ops K (⟨d, .call { callee := .value x, args := args, argTypes := ts }, ty, pos, af, gd⟩ :: l) fs st := by
 subst hxs
 subst hr
 subst hw
 subst hos
 have hview : AV.viewL (fun _ => false) (zcb ((AV.objsL (args.toList.map st.ev ++ cs)).map fun o => (o, st.heap o))) (args.toList.map st.ev ++ cs) = AV.viewL (fun _ => false) st.heap (args.toList.map st.ev ++ cs) := zcS _ _ fun o ho => by
  have : ∀ l : List Nat, o ∈ l → zcb (l.map fun o => (o, st.heap o)) o = st.heap o := by
   intro l
   induction l with
   | nil => intro h; cases h
   | cons a l ih =>
    intro h
    by_cases e : o = a
    ·subst e; simp [zcb, updL]
    ·rcases qaI.1 h with h | h
     ·exact absurd h e
     ·simp only [qaF, zcb, updL, nbeq e, cond_false]; exact ih h
  exact this _ ho
 have hop := a_callW (P := P) (d := d) (ty := ty) (pos := pos) (af := af) (g := gd) (x := x) (args := args) (ts := ts) (rds := (AV.objsL (args.toList.map st.ev ++ cs)).map fun o => (o, st.heap o)) ρ hf hb hn (by rw [hview]; exact hC) (by simpa [List.all_map, Function.comp_def] using hl) h3 h4 h5
 refine zab hop ?_ hg ?_ ?_
 ·rw [← hx]
  simp [Op.operands, Call.operands]
 ·have app : ∀ a b : List (Nat × Slot), Rds st a → Rds st b → Rds st (a ++ b) := by
   intro a
   induction a with
   | nil => intro b _ h; exact h
   | cons p a ih => intro b h1 h2; exact ⟨h1.1, ih b h1.2 h2⟩
  refine app _ _ ?_ hun
  generalize AV.objsL (args.toList.map st.ev ++ cs) = l
  induction l with
  | nil => trivial
  | cons a l ih => exact ⟨rfl, ih⟩
 ·have e1 : ((AV.objsL (args.toList.map st.ev ++ cs)).map (fun o => (o, st.heap o)) ++ news.map fun p => (ρ p.1, Slot.un)).map Prod.fst = AV.objsL (args.toList.map st.ev ++ cs) ++ news.map (fun p => ρ p.1) := by
   simp [qbg, Function.comp_def]
  have e3 : zhD ((AV.objsL (args.toList.map st.ev ++ cs)).map fun o => (o, st.heap o)) = (AV.objsL (args.toList.map st.ev ++ cs)).map fun o => (o, Slot.dead) := by
   simp [zhD, qbg, Function.comp_def]
  have e2 : (za4 ρ news ++ (AV.objsL (args.toList.map st.ev ++ cs)).map fun o => (o, Slot.dead)).map Prod.fst = news.map (fun p => ρ p.1) ++ AV.objsL (args.toList.map st.ev ++ cs) := by
   simp [za4, qbg, Function.comp_def]
  rw [e3, e1, e2]
  exact k
end
end Go.Proofs.YtlfjpippeeikdaaGreatDoor
