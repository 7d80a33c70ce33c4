/- The machine over data: calls that are given the caller's own variables. -/
import Derived.Test.YtgbgpidimipfjaaAbe
import Derived.Test.YtgbgpidimipfjaaAbj
namespace Go.Proofs.Ytgbgpidimipfjaa
open Go.RowKit Go.Sort
set_option linter.unusedVariables false

/-! ### names changed places -/
def swp (a b x : Nat) : Nat := bif Nat.beq x a then b else bif Nat.beq x b then a else x
theorem swp_swp (a b x : Nat) : swp a b (swp a b x) = x := by
  unfold swp
  by_cases h1 : x = a
  · subst h1
    by_cases h2 : b = x
    · subst h2; simp
    · simp [nbeq h2]
  · by_cases h2 : x = b
    · subst h2; simp [nbeq h1]
    · simp [nbeq h1, nbeq h2]
def perm : List (Nat × Nat) → Nat → Nat
  | [], x => x
  | (k, o) :: l, x => swp (perm l k) o (perm l x)
def permI : List (Nat × Nat) → Nat → Nat
  | [], x => x
  | (k, o) :: l, x => permI l (swp (perm l k) o x)
theorem permI_perm : ∀ (l : List (Nat × Nat)) (x : Nat), permI l (perm l x) = x
  | [], x => rfl
  | (k, o) :: l, x => by simp only [perm, permI, swp_swp, permI_perm l x]
theorem perm_permI : ∀ (l : List (Nat × Nat)) (x : Nat), perm l (permI l x) = x
  | [], x => rfl
  | (k, o) :: l, x => by simp only [perm, permI, perm_permI l, swp_swp]

def Slot.ren (ρ : Nat → Nat) : Slot → Slot
  | .live ob => .live (ob.ren ρ)
  | s => s
mutual
theorem AV.ren_inv {ρ τ : Nat → Nat} (h : ∀ x, τ (ρ x) = x) : ∀ x : AV, (x.ren ρ).ren τ = x
  | .p x => rfl
  | .agg cs => by simp only [AV.ren, AV.renL_inv h cs]
  | .tup cs => by simp only [AV.ren, AV.renL_inv h cs]
  | .ptr cs => rfl
  | .ref o off => by simp only [AV.ren, h]
  | .row o => by simp only [AV.ren, h]
  | .psl o off n size => by simp only [AV.ren, h]
  | .fn f cs => by simp only [AV.ren, AV.renL_inv h cs]
  | .mb b x => by simp only [AV.ren, AV.ren_inv h x]
  | .ifc => rfl
  | .mp o => by simp only [AV.ren, h]
  | .any => rfl
theorem AV.renL_inv {ρ τ : Nat → Nat} (h : ∀ x, τ (ρ x) = x) : ∀ x : List AV, AV.renL τ (AV.renL ρ x) = x
  | [] => rfl
  | c :: cs => by simp only [AV.renL, AV.ren_inv h c, AV.renL_inv h cs]
end
theorem AObj.ren_inv {ρ τ : Nat → Nat} (h : ∀ x, τ (ρ x) = x) (ob : AObj) : (ob.ren ρ).ren τ = ob := by
  cases ob with
  | box ty cs => simp only [AObj.ren, AV.renL_inv h cs]
  | row e size n cs => rfl
  | map es => rfl
theorem Slot.ren_inv {ρ τ : Nat → Nat} (h : ∀ x, τ (ρ x) = x) (s : Slot) : (s.ren ρ).ren τ = s := by
  cases s with
  | un => rfl
  | dead => rfl
  | live ob => simp only [Slot.ren, AObj.ren_inv h ob]
theorem ORep.ren {B : Nat} {S : Nat → Prop} {w : World} {m m' : Nat → Option Value} {ρ : Nat → Nat} (hm : ∀ o v, m o = some v → m' (ρ o) = some v) {ob : AObj} {v : Value} (h : ORep B S m w ob v) : ORep B S m' w (ob.ren ρ) v := by
  cases ob with
  | box ty cs =>
    obtain ⟨b, us, g1, g2, g3, g4, g5⟩ := h
    exact ⟨b, us, g1, g2, RepL.ren hm _ _ g3, g4, g5⟩
  | row e size n cs => exact h
  | map es => exact h
theorem mem_ren {w0 : World} {A S : Nat → Prop} {m : Nat → Option Value} {heap : Nat → Slot} {w : World} {ρ τ : Nat → Nat} (h1 : ∀ x, τ (ρ x) = x) (h2 : ∀ x, ρ (τ x) = x) (hm : Mem w0 A S m heap w) :
    Mem w0 A S (fun k => m (ρ k)) (fun k => (heap (ρ k)).ren τ) w := by
  have hr : ∀ o v, m o = some v → (fun k => m (ρ k)) (τ o) = some v := fun o v h => by simp only [h2]; exact h
  have key : ∀ {o : Nat} {ob : AObj}, (heap (ρ o)).ren τ = .live ob → ∃ ob0, heap (ρ o) = .live ob0 ∧ ob = ob0.ren τ := by
    intro o ob ho
    cases hh : heap (ρ o) with
    | un => rw [hh] at ho; cases ho
    | dead => rw [hh] at ho; cases ho
    | live ob0 =>
      rw [hh] at ho
      simp only [Slot.ren, Slot.live.injEq] at ho
      exact ⟨ob0, rfl, ho.symm⟩
  refine ⟨hm.bel, hm.sA, hm.sW, fun o ho => ?_, fun o ob ho => ?_, fun o o' ob ob' v v' b ho ho' hv hv' hb hb' => ?_⟩
  · refine hm.un _ ?_
    cases hh : heap (ρ o) with
    | un => rfl
    | dead => simp only [hh, Slot.ren] at ho; cases ho
    | live ob0 => simp only [hh, Slot.ren] at ho; cases ho
  · obtain ⟨ob0, k1, rfl⟩ := key ho
    obtain ⟨v, k2, k3, k4⟩ := hm.live _ _ k1
    exact ⟨v, k2, ORep.ren (m' := fun k => m (ρ k)) (ρ := τ) hr k3, k4⟩
  · obtain ⟨ob0, k1, _⟩ := key ho
    obtain ⟨ob1, k2, _⟩ := key ho'
    have := hm.inj _ _ _ _ _ _ _ k1 k2 hv hv' hb hb'
    have h3 := congrArg τ this
    rwa [h1, h1] at h3

/-! ### contracts -/
/-- f, called with these data and these variables of the caller, answers 'res' and turns the variables so; nothing else that was there is turned. -/
def FnO (P : Program) (f : FuncId) (args : List AV) (rds wrs : List (Nat × Slot)) (res : AV) : Prop :=
  ∀ (w0 : World) (A S : Nat → Prop) (m : Nat → Option Value) (heap : Nat → Slot) (w : World) (us : List Value), Mem w0 A S m heap w → RepL S m w args us → (∀ p ∈ rds, heap p.1 = p.2) →
    Calls P f us.toArray w fun e w' => ∃ v, e = .returned v ∧ ∃ S' m', Rep S' m' w' res v ∧ Mem w0 A S' m' (updL heap wrs) w' ∧ Grow S m w S' m' w'

theorem updL_self {heap : Nat → Slot} : ∀ {l : List (Nat × Slot)}, (∀ p ∈ l, heap p.1 = p.2) → updL heap l = heap
  | [], _ => rfl
  | (n, s) :: l, h => by
    funext o
    simp only [updL]
    by_cases e : o = n
    · subst e
      simp only [Nat.beq_refl, cond_true]; exact (h (o, s) (by simp)).symm
    · simp only [nbeq e, cond_false]
      rw [updL_self fun p hp => h p (by simp [hp])]

structure FinO (P : Program) (rs : List ResultVar) (res : AV) (heap : Nat → Slot) (wrs : List (Nat × Slot)) (e : Exit) (st : St) : Prop where
  ends : e = .normal ∨ e = .ret
  ex : ∃ vals : List AV, ResIs P st rs vals ∧ oneA vals = res
  hp : Rds st wrs
  rest : ∀ o, (wrs.any fun p => Nat.beq o p.1) = false → st.heap o = heap o

theorem fnO_intro {P : Program} {f : FuncId} {fn : Func} {c : Code} {args : List AV} {res : AV} {rds wrs : List (Nat × Slot)} (hf : P.funcs[f]? = some fn) (hb : fn.body = some c) (hn : args.length ≤ fn.ntmps)
    (h : ∀ w0 A heap, awp ⟨P, w0, A, fn.ntmps⟩ c (FinO P fn.results.toList res heap wrs) ⟨lookT (initT 0 args), updL heap rds⟩) : FnO P f args rds wrs res := by
  intro w0 A S m heap w us hm hr hrd
  refine calls_of_wp hf hb ?_
  have hl := hr.length
  have hup := updL_self hrd
  let C : Ctx := ⟨A, fun S' m' w' => Grow S m w S' m' w', fun S1 m1 w1 S2 m2 w2 g k => k.trans g⟩
  refine wp_mono (h w0 C heap _ w ⟨⟨S, m, by rw [hup]; exact hm, Grow.refl _ _ _, fun t => ?_⟩, ?_, rfl⟩) ?_
  · show Rep S _ w (lookT (initT 0 args) t) _
    rw [initT_get]
    simp only [Nat.zero_le, if_true, Nat.sub_zero]
    by_cases ht : t < args.length
    · have e : args.getD t .any = args[t] := by simp [List.getD_eq_getElem?_getD, ht]
      rw [e]
      obtain ⟨u, h1, h2⟩ := hr.at_ (List.getElem?_eq_getElem ht)
      have hu : t < us.length := by omega
      have e2 : (us.toArray ++ Array.replicate (fn.ntmps - us.toArray.size) undef).getD t undef = u := by
        simp only [Array.getD_eq_getD_getElem?]
        rw [Array.getElem?_append_left (by simpa using hu)]
        simp [h1]
      rw [e2]; exact h2
    · have e : args.getD t .any = .any := by simp [List.getD_eq_getElem?_getD, Nat.le_of_not_lt ht]
      rw [e]; simp only [Rep]
  · simp only [Array.size_append, List.size_toArray, Array.size_replicate]; omega
  · rintro e a w' ⟨st, h1, ⟨⟨S', m', hm', hg, ht⟩, hsz, hd⟩⟩
    obtain ⟨vals, hall, hone⟩ := h1.ex
    obtain ⟨us', hrun, hrep⟩ := resIs_run hm' ht hall
    have hres := oneA_rep hrep
    rw [hone] at hres
    have hheap : st.heap = updL heap wrs := by
      funext o
      by_cases ho : o ∈ wrs.map Prod.fst
      · have hs := updL_self h1.hp.all
        rw [← hs]
        exact updL_in ho
      · rw [updL_other ho]
        refine h1.rest o ?_
        rw [List.any_eq_false]
        intro p hp
        have := nbeq fun e : o = p.1 => ho (List.mem_map.2 ⟨p, hp, e.symm⟩)
        simp [this]
    rw [hheap] at hm'
    rcases h1.ends with rfl | rfl
    · exact ⟨hd, _, results_run hrun, _, rfl, S', m', hres, hm', hg⟩
    · exact ⟨hd, _, results_run hrun, _, rfl, S', m', hres, hm', hg⟩

def renW (ρ : Nat → Nat) (l : List (Nat × Slot)) : List (Nat × Slot) := l.map fun p => (ρ p.1, p.2.ren ρ)
theorem renW_fst (ρ : Nat → Nat) : ∀ l : List (Nat × Slot), (renW ρ l).map Prod.fst = l.map fun p => ρ p.1
  | [] => rfl
  | p :: l => by simp [renW]
theorem updL_ren {heap : Nat → Slot} {ρ τ : Nat → Nat} (h1 : ∀ x, τ (ρ x) = x) (h2 : ∀ x, ρ (τ x) = x) : ∀ (wrs : List (Nat × Slot)) (o : Nat), (updL (fun k => (heap (ρ k)).ren τ) wrs (τ o)).ren ρ = updL heap (renW ρ wrs) o
  | [], o => by simp only [updL, renW, List.map_nil, h2, Slot.ren_inv h2]
  | (n, s) :: l, o => by
    simp only [updL, renW, List.map_cons]
    by_cases e : τ o = n
    · have e2 : o = ρ n := by rw [← e, h2]
      subst e2
      simp only [h1, Nat.beq_refl, cond_true]
    · have e2 : o ≠ ρ n := fun e2 => e (by rw [e2, h1])
      simp only [nbeq e, nbeq e2, cond_false]
      exact updL_ren h1 h2 l o
/-- the names of a contract are but names -/
theorem FnO.renamed {P : Program} {f : FuncId} {args as : List AV} {rds wrs : List (Nat × Slot)} {res : AV} (h : FnO P f args rds wrs res) (l : List (Nat × Nat)) (ha : AV.renL (permI l) as = args) :
    FnO P f as (renW (perm l) rds) (renW (perm l) wrs) (res.ren (perm l)) := by
  intro w0 A S m heap w us hm hr hrd
  have h1 := permI_perm l
  have h2 := perm_permI l
  have hm1 := mem_ren h1 h2 hm
  have hr1 : RepL S (fun k => m (perm l k)) w args us := by
    rw [← ha]
    exact RepL.ren (fun o v ho => by simp only [h2]; exact ho) _ _ hr
  refine (h w0 A S _ _ w us hm1 hr1 fun p hp => ?_).mono fun e w' ⟨v, he, S', m', k1, k2, k3⟩ => ?_
  · have := hrd (perm l p.1, p.2.ren (perm l)) (List.mem_map.2 ⟨p, hp, rfl⟩)
    simp only [this, Slot.ren_inv h1]
  · refine ⟨v, he, S', fun o => m' (permI l o), Rep.ren (fun o v ho => by simp only [h1]; exact ho) _ _ k1, ?_, ⟨k3.s, k3.w, fun o v ho => ?_⟩⟩
    · have := mem_ren h2 h1 k2
      have e : (fun k => (updL (fun k => (heap (perm l k)).ren (permI l)) wrs (permI l k)).ren (perm l)) = updL heap (renW (perm l) wrs) := by
        funext o; exact updL_ren h1 h2 wrs o
      rwa [e] at this
    · refine k3.m _ _ ?_
      simp only [h2]; exact ho
section
variable {P : Program} {d : Option Tmp} {ty : TypeId} {pos : String} {af : Array Edge} {g : Option (Nat × Bool)} {x : Operand} {args : Array Operand} {ts : Array TypeId} {f : FuncId} {fn : Func}
theorem a_callO {xs cs : List AV} {rds wrs : List (Nat × Slot)} {res : AV} (hf : P.funcs[f]? = some fn) (hb : fn.body.isNone = false) (hn : (fn.name == "runtime.NumGoroutine") = false) (hC : FnO P f (xs ++ cs) rds wrs res) :
    AOp P ⟨d, .call { callee := .value x, args := args, argTypes := ts }, ty, pos, af, g⟩ (.fn f cs :: xs) rds wrs res := by
  intro w0 A S m heap w ev hm hR hrd
  obtain ⟨us, e1, e2⟩ := fn_args hR
  unfold Out
  rw [run_call hf hb hn e1]
  have e4 : args.map ev ++ us.toArray = ((args.map ev).toList ++ us).toArray := by simp
  rw [e4]
  exact hC w0 A S m heap w _ hm e2 hrd
end
section
variable {P : Program} {ops : Array Oper} {K : List Foot → St → Prop} {l : List Oper} {fs : List Foot} {st : St} {d : Option Tmp} {ty : TypeId} {pos : String} {af : Array Edge} {gd : Option (Nat × Bool)}
/-- a call that is given the caller's own variables; 'ρ' tells the caller's names of those of the contract -/
theorem r_callO {x : Operand} {args : Array Operand} {ts : Array TypeId} {f : FuncId} {fn : Func} {as cs : List AV} {res : AV} {rds wrs : List (Nat × Slot)} (ρ : List (Nat × Nat)) (hC : FnO P f as rds wrs res) (hx : st.ev x = .fn f cs) (hxs : AV.renL (permI ρ) (args.toList.map st.ev ++ cs) = as) (hf : P.funcs[f]? = some fn) (hb : fn.body.isNone = false) (hn : (fn.name == "runtime.NumGoroutine") = false)
    {rd' wr' : List (Nat × Slot)} (h1 : renW (perm ρ) rds = rd') (h2 : renW (perm ρ) wrs = wr') (hrd : Rds st rd') (hg : awanted ops ⟨d, .call { callee := .value x, args := args, argTypes := ts }, ty, pos, af, gd⟩ st = some true) {r : AV} (hr : res.ren (perm ρ) = r)
    (k : ARun P ops K l (fs ++ [(rd'.map Prod.fst, wr'.map Prod.fst)]) ((st.upd wr').put d r)) :
    ARun P ops K (⟨d, .call { callee := .value x, args := args, argTypes := ts }, ty, pos, af, gd⟩ :: l) fs st := by
  subst hr
  subst h1
  subst h2
  have hop := a_callO (P := P) (d := d) (ty := ty) (pos := pos) (af := af) (g := gd) (x := x) (args := args) (ts := ts) hf hb hn (hC.renamed ρ hxs)
  refine r_run hop ?_ hg hrd k
  rw [← hx]
  simp [Op.operands, Call.operands]
end

section
variable {P : Program} {ops : Array Oper} {K : List Foot → St → Prop} {l : List Oper} {fs : List Foot} {st : St} {d : Option Tmp} {ty : TypeId} {pos : String} {af : Array Edge} {gd : Option (Nat × Bool)}
theorem r_callO0 {x : Operand} {args : Array Operand} {ts : Array TypeId} {f : FuncId} {fn : Func} {as cs : List AV} {res : AV} {rds wrs : List (Nat × Slot)} (hC : FnO P f as rds wrs res) (hx : st.ev x = .fn f cs) (hxs : args.toList.map st.ev ++ cs = as) (hf : P.funcs[f]? = some fn) (hb : fn.body.isNone = false) (hn : (fn.name == "runtime.NumGoroutine") = false)
    (hrd : Rds st rds) (hg : awanted ops ⟨d, .call { callee := .value x, args := args, argTypes := ts }, ty, pos, af, gd⟩ st = some true)
    (k : ARun P ops K l (fs ++ [(rds.map Prod.fst, wrs.map Prod.fst)]) ((st.upd wrs).put d res)) :
    ARun P ops K (⟨d, .call { callee := .value x, args := args, argTypes := ts }, ty, pos, af, gd⟩ :: l) fs st := by
  subst hxs
  have hop := a_callO (P := P) (d := d) (ty := ty) (pos := pos) (af := af) (g := gd) (x := x) (args := args) (ts := ts) hf hb hn hC
  refine r_run hop ?_ hg hrd k
  rw [← hx]
  simp [Op.operands, Call.operands]
end

/-! ### restating inside of such a function -/
def ReO (st st' : St) : Prop := ∀ (w0 : World) (A : Ctx) (nt : Nat) (a : Act) (w : World), Sim w0 A nt st a w → Sim w0 A nt st' a w
theorem awp_reO {G : Env} {c : Code} {Q : Exit → St → Prop} {st st' : St} (r : ReO st st') (h : awp G c Q st') : awp G c Q st := fun a w hs => h a w (r _ _ _ a w hs)
theorem awp_loopO {G : Env} {Q : Exit → St → Prop} {st : St} {c : Code} (I : Nat → St → Prop) (n : Nat) (h0 : ∃ st1, ReO st st1 ∧ I n st1) (round : ∀ n st, I n st → awp G c (Thn (fun st' => ∃ n' < n, ∃ st1, ReO st' st1 ∧ I n' st1) Q) st) : awp G (.loop c) Q st :=
  awp_loop (fun n st => ∃ st1, ReO st st1 ∧ I n st1) h0 fun n st ⟨st1, h1, h2⟩ => awp_reO h1 (round n st1 h2)
theorem awp_joinO {G : Env} {c d : Code} {Q : Exit → St → Prop} {st : St} (st1 : St) (h : awp G c (fun e st' => e = .normal ∧ ReO st' st1) st) (k : awp G d Q st1) : awp G c (Thn (awp G d Q) Q) st :=
  fun a w hs => wp_mono (h a w hs) fun e a' w' ⟨st', ⟨h1, h2⟩, h3⟩ => by
    subst h1
    exact ⟨st1, k, h2 _ _ _ _ _ h3⟩
def LeTO (st : St) : List (Nat × AV) → Prop
  | [] => True
  | (t, x) :: l => (st.tmps t = x) ∧ LeTO st l
theorem LeTO.mem {st : St} : ∀ {l : List (Nat × AV)}, LeTO st l → ∀ p ∈ l, st.tmps p.1 = p.2
  | [], _, p, hp => by cases hp
  | (t, x) :: l, h, p, hp => by
    rcases List.mem_cons.1 hp with rfl | hp
    · exact h.1
    · exact LeTO.mem h.2 p hp
/-- slots forgotten, and the names written out anew: what is given up is dead -/
theorem reo_of {st : St} (ts : List (Nat × AV)) (heap : Nat → Slot) (h1 : LeTO st ts) (h2 : ∀ o, st.heap o = heap o ∨ heap o = .dead) : ReO st ⟨lookT ts, heap⟩ := by
  rintro w0 A nt a w ⟨⟨S, m, hm, hj, ht⟩, hsz, hd⟩
  refine ⟨⟨S, m, ⟨hm.bel, hm.sA, hm.sW, fun o ho => ?_, fun o ob ho => ?_, fun o o' ob ob' v v' b ho ho' => ?_⟩, hj, fun t => ?_⟩, hsz, hd⟩
  · rcases h2 o with h | h
    · exact hm.un o (h.trans ho)
    · have ho' : heap o = .un := ho
      rw [h] at ho'; cases ho'
  · rcases h2 o with h | h
    · exact hm.live o ob (h.trans ho)
    · have ho' : heap o = .live ob := ho
      rw [h] at ho'; cases ho'
  · rcases h2 o with h | h
    · rcases h2 o' with h' | h'
      · exact hm.inj o o' ob ob' v v' b (h.trans ho) (h'.trans ho')
      · have k : heap o' = .live ob' := ho'
        rw [h'] at k; cases k
    · have k : heap o = .live ob := ho
      rw [h] at k; cases k
  · show Rep _ _ _ (lookT ts t) _
    rcases lookT_mem (l := ts) (t := t) with h | ⟨p, g1, g2, g3⟩
    · rw [h]; simp only [Rep]
    · have := LeTO.mem h1 p g1
      rw [← g3, ← this, g2]
      exact ht t
theorem reo_drop {st : St} (o : Nat) : ReO st ⟨st.tmps, updL st.heap [(o, .dead)]⟩ := by
  rintro w0 A nt a w ⟨⟨S, m, hm, hj, ht⟩, hsz, hd⟩
  have key : ∀ o', updL st.heap [(o, .dead)] o' = st.heap o' ∨ updL st.heap [(o, .dead)] o' = .dead := fun o' => by
    by_cases e : o' = o
    · subst e; exact .inr (by simp [updL])
    · exact .inl (by simp only [updL, nbeq e, cond_false])
  refine ⟨⟨S, m, ⟨hm.bel, hm.sA, hm.sW, fun o' ho => ?_, fun o' ob ho => ?_, fun o1 o2 ob ob' v v' b ho ho' => ?_⟩, hj, ht⟩, hsz, hd⟩
  · rcases key o' with h | h
    · exact hm.un o' (h.symm.trans ho)
    · have k : updL st.heap [(o, .dead)] o' = .un := ho
      rw [h] at k; cases k
  · rcases key o' with h | h
    · exact hm.live o' ob (h.symm.trans ho)
    · have k : updL st.heap [(o, .dead)] o' = .live ob := ho
      rw [h] at k; cases k
  · rcases key o1 with h | h
    · rcases key o2 with h' | h'
      · exact hm.inj o1 o2 ob ob' v v' b (h.symm.trans ho) (h'.symm.trans ho')
      · have k : updL st.heap [(o, .dead)] o2 = .live ob' := ho'
        rw [h'] at k; cases k
    · have k : updL st.heap [(o, .dead)] o1 = .live ob := ho
      rw [h] at k; cases k
end Go.Proofs.Ytgbgpidimipfjaa
