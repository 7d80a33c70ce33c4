/- The machine over data: calls by contract. -/
import Derived.Test.YtgbgpidimipfjaaAbx
namespace Go.Proofs.Ytgbgpidimipfjaa
open Go.RowKit Go.Sort
set_option linter.unusedVariables false

def PV.isV : PV → Bool
  | .v _ => true
  | .sl .. => false
  | .pt _ => false
mutual
def AV.noSl : AV → Bool
  | .p x => x.isV
  | .agg cs => AV.noSlL cs
  | .tup cs => AV.noSlL cs
  | .ptr _ => false
  | .ref .. => true
  | .row _ => true
  | .psl .. => true
  | .fn _ cs => AV.noSlL cs
  | .mb _ x => x.noSl
  | .ifc => true
  | .mp _ => true
  | .any => true
def AV.noSlL : List AV → Bool
  | [] => true
  | c :: cs => c.noSl && AV.noSlL cs
end
def AObj.noSl : AObj → Bool
  | .box _ cs => AV.noSlL cs
  | .row _ _ _ cs => cs.all PV.isV
  | .map _ => true
theorem bs_noSl (xs : List Int) : (bs xs).all PV.isV = true := by simp [bs, PV.isV]

section
variable {S T : Nat → Prop} {m : Nat → Option Value} {w : World}
theorem PRepL.noSl : ∀ {cs : List PV} {us : List Value}, cs.all PV.isV = true → PRepL S w cs us → PRepL T w cs us
  | [], us, _, h => by simpa only [PRepL] using h
  | c :: cs, us, hn, h => by
    simp only [List.all_cons, Bool.and_eq_true] at hn
    simp only [PRepL] at h ⊢
    obtain ⟨u, us, h1, h2, h3⟩ := h
    refine ⟨u, us, h1, ?_, h3.noSl hn.2⟩
    cases c with
    | v x => simpa only [PRep] using h2
    | sl n size cs => simp [PV.isV] at hn
    | pt cs => simp [PV.isV] at hn
mutual
theorem Rep.noSl : ∀ (x : AV) (u : Value), x.noSl = true → Rep S m w x u → Rep T m w x u
  | .p x, u, hn, h => by
    simp only [Rep] at h ⊢
    cases x with
    | v x => simpa only [PRep] using h
    | sl n size cs => simp [AV.noSl, PV.isV] at hn
    | pt cs => simp [AV.noSl, PV.isV] at hn
  | .agg cs, u, hn, h => by
    simp only [Rep] at h ⊢
    obtain ⟨us, h1, h2, h3⟩ := h
    exact ⟨us, h1, RepL.noSl cs us (by simpa only [AV.noSl] using hn) h2, h3⟩
  | .tup cs, u, hn, h => by
    simp only [Rep] at h ⊢
    obtain ⟨us, h1, h2⟩ := h
    exact ⟨us, h1, RepL.noSl cs us (by simpa only [AV.noSl] using hn) h2⟩
  | .ptr cs, u, hn, h => by simp [AV.noSl] at hn
  | .ref o off, u, hn, h => by simpa only [Rep] using h
  | .row o, u, hn, h => by simpa only [Rep] using h
  | .psl o off n size, u, hn, h => by simpa only [Rep] using h
  | .fn f cs, u, hn, h => by
    simp only [Rep] at h ⊢
    obtain ⟨us, h1, h2⟩ := h
    exact ⟨us, h1, RepL.noSl cs us (by simpa only [AV.noSl] using hn) h2⟩
  | .mb b x, u, hn, h => by
    simp only [Rep] at h ⊢
    exact fun hb => Rep.noSl x u (by simpa only [AV.noSl] using hn) (h hb)
  | .ifc, u, hn, h => by simpa only [Rep] using h
  | .mp o, u, hn, h => by simpa only [Rep] using h
  | .any, u, hn, h => by simp only [Rep]
theorem RepL.noSl : ∀ (x : List AV) (u : List Value), AV.noSlL x = true → RepL S m w x u → RepL T m w x u
  | [], u, hn, h => by simpa only [RepL] using h
  | c :: cs, u, hn, h => by
    simp only [AV.noSlL, Bool.and_eq_true] at hn
    simp only [RepL] at h ⊢
    obtain ⟨u, us, h1, h2, h3⟩ := h
    exact ⟨u, us, h1, Rep.noSl c u hn.1 h2, RepL.noSl cs us hn.2 h3⟩
end
theorem ORep.noSl {B : Nat} {ob : AObj} {v : Value} (hn : ob.noSl = true) (h : ORep B S m w ob v) : ORep B T m w ob v := by
  cases ob with
  | box ty cs =>
    obtain ⟨b, us, h1, h2, h3, h4, h5⟩ := h
    exact ⟨b, us, h1, h2, RepL.noSl cs us hn h3, h4, h5⟩
  | row e size n cs =>
    obtain ⟨us, h1, h2⟩ := h
    exact ⟨us, h1.noSl hn, h2⟩
  | map es => exact h
end

def findN (ρ : Nat → Nat) : List (Nat × AObj) → Nat → Option Nat
  | [], _ => none
  | (n, _) :: l, o => if ρ n = o then some n else findN ρ l o
theorem findN_some {ρ : Nat → Nat} : ∀ {l : List (Nat × AObj)} {o n : Nat}, findN ρ l o = some n → ρ n = o ∧ n ∈ l.map Prod.fst
  | [], o, n, h => by cases h
  | (k, _) :: l, o, n, h => by
    simp only [findN] at h
    split at h
    · rename_i hk; cases h; exact ⟨hk, by simp⟩
    · obtain ⟨h1, h2⟩ := findN_some h; exact ⟨h1, by simp only [List.map_cons, List.mem_cons]; exact .inr h2⟩
theorem findN_of {ρ : Nat → Nat} : ∀ {l : List (Nat × AObj)} {n : Nat}, n ∈ l.map Prod.fst → (∀ k ∈ l.map Prod.fst, ρ k = ρ n → k = n) → findN ρ l (ρ n) = some n
  | [], n, h, _ => by simp at h
  | (k, _) :: l, n, h, hi => by
    simp only [findN]
    by_cases hk : ρ k = ρ n
    · rw [if_pos hk, hi k (by simp) hk]
    · rw [if_neg hk]
      simp only [List.map_cons, List.mem_cons] at h
      exact findN_of (h.resolve_left fun e => hk (by rw [e])) fun k' hk' e => hi k' (by simp only [List.map_cons, List.mem_cons]; exact .inr hk') e
theorem findN_none {ρ : Nat → Nat} : ∀ {l : List (Nat × AObj)} {o : Nat}, findN ρ l o = none → ∀ k ∈ l.map Prod.fst, ρ k ≠ o
  | [], o, _, k, hk => by simp at hk
  | (n, _) :: l, o, h, k, hk => by
    simp only [findN] at h
    split at h
    · cases h
    · rename_i hne
      simp only [List.map_cons, List.mem_cons] at hk
      rcases hk with rfl | hk
      · exact hne
      · exact findN_none h k hk

def wrsOf (ρ : Nat → Nat) (news : List (Nat × AObj)) : List (Nat × Slot) := news.map fun p => (ρ p.1, .live (p.2.ren ρ))
theorem wrsOf_look {ρ : Nat → Nat} {heap : Nat → Slot} : ∀ {news : List (Nat × AObj)} {o : Nat}, (updL heap (wrsOf ρ news) o = heap o ∧ ∀ k ∈ news.map Prod.fst, ρ k ≠ o) ∨ ∃ p ∈ news, ρ p.1 = o ∧ updL heap (wrsOf ρ news) o = .live (p.2.ren ρ)
  | [], o => .inl ⟨rfl, by simp⟩
  | (n, ob) :: l, o => by
    by_cases h : ρ n = o
    · subst h
      exact .inr ⟨(n, ob), by simp, rfl, by simp [wrsOf, updL]⟩
    · have hb : Nat.beq o (ρ n) = false := nbeq (Ne.symm h)
      have e : updL heap (wrsOf ρ ((n, ob) :: l)) o = updL heap (wrsOf ρ l) o := by simp only [wrsOf, List.map_cons, updL, hb, cond_false]
      rw [e]
      rcases wrsOf_look (ρ := ρ) (heap := heap) (news := l) (o := o) with ⟨h1, h2⟩ | ⟨p, h1, h2, h3⟩
      · refine .inl ⟨h1, fun k hk => ?_⟩
        simp only [List.map_cons, List.mem_cons] at hk
        rcases hk with rfl | hk
        · exact h
        · exact h2 k hk
      · exact .inr ⟨p, by simp [h1], h2, h3⟩

/-- what a call leaves, put to what there was -/
theorem res_merge {w0 : World} {A A' S S2 : Nat → Prop} {m : Nat → Option Value} {heap : Nat → Slot} {w w' : World} {S' : Nat → Prop} {m' : Nat → Option Value} {res : AV} {news : List (Nat × AObj)} {v : Value} (ρ : Nat → Nat)
    (hm : Mem w0 A S m heap w) (hk : Mem w A' S' m' (lookO news) w') (hres : Rep S2 m' w' res v) (hobj : ∀ o ob u, lookO news o = .live ob → ORep w.heap.size S' m' w' ob u → ORep w.heap.size S2 m' w' ob u)
    (h1 : ∀ b, S b → S2 b) (h2 : ∀ b, S2 b → S b ∨ (S' b ∧ w.heap.size ≤ b)) (hun : ∀ k ∈ news.map Prod.fst, heap (ρ k) = .un) (hnd : nodupB (news.map Prod.fst) = true) (hinj : nodupB (news.map fun p => ρ p.1) = true) (hok : res.okIn (news.map Prod.fst) = true) :
    ∃ m2, Rep S2 m2 w' (res.ren ρ) v ∧ Mem w0 A S2 m2 (updL heap (wrsOf ρ news)) w' ∧ Grow S m w S2 m2 w' := by
  have hi : ∀ p ∈ news, ∀ q ∈ news, ρ p.1 = ρ q.1 → p.1 = q.1 := nodupB_inj hinj
  have hi' : ∀ k ∈ news.map Prod.fst, ∀ k' ∈ news.map Prod.fst, ρ k = ρ k' → k = k' := by
    intro k hk k' hk' e
    obtain ⟨p, hp, rfl⟩ := List.mem_map.1 hk
    obtain ⟨q, hq, rfl⟩ := List.mem_map.1 hk'
    exact hi p hp q hq e
  have hlook : ∀ p ∈ news, lookO news p.1 = .live p.2 := by
    have : ∀ l : List (Nat × AObj), nodupB (l.map Prod.fst) = true → ∀ p ∈ l, lookO l p.1 = .live p.2 := by
      intro l
      induction l with
      | nil => intro _ p hp; cases hp
      | cons q l ih =>
        intro hd p hp
        simp only [List.map_cons, nodupB, Bool.and_eq_true, Bool.not_eq_true', List.elem_eq_mem, decide_eq_false_iff_not] at hd
        rcases List.mem_cons.1 hp with rfl | hp
        · simp [lookO]
        · have hne : p.1 ≠ q.1 := fun e => hd.1 (e ▸ List.mem_map.2 ⟨p, hp, rfl⟩)
          simp only [lookO, nbeq hne, cond_false]
          exact ih hd.2 p hp
    exact this news hnd
  let m2 : Nat → Option Value := fun o => match findN ρ news o with | some n => m' n | none => m o
  have hB := hm.hB
  have hBw := hk.bel.size
  have e1 : ∀ k ∈ news.map Prod.fst, m2 (ρ k) = m' k := fun k hk' => by
    have := findN_of (ρ := ρ) hk' fun j hj e => hi' j hj k hk' e
    simp only [m2, this]
  have e2 : ∀ o, (∀ k ∈ news.map Prod.fst, ρ k ≠ o) → m2 o = m o := fun o ho => by
    cases hf : findN ρ news o with
    | none => simp only [m2, hf]
    | some n => obtain ⟨g1, g2⟩ := findN_some hf; exact absurd g1 (ho n g2)
  have hren : ∀ o u, m' o = some u → m2 (ρ o) = some u := fun o u ho => by
    have : o ∈ news.map Prod.fst := by
      cases hl : lookO news o with
      | un => rw [hk.un o hl] at ho; cases ho
      | dead =>
        exfalso
        have : ∀ l : List (Nat × AObj), lookO l o ≠ .dead := by
          intro l
          induction l with
          | nil => intro h; cases h
          | cons q l ih =>
            intro h
            by_cases e : o = q.1
            · subst e; simp [lookO] at h
            · simp only [lookO, nbeq e, cond_false] at h; exact ih h
        exact this _ hl
      | live ob => exact List.mem_map.2 ⟨_, lookO_live hl, rfl⟩
    rw [e1 o this]; exact ho
  have g : Grow S m w S2 m2 w' := ⟨h1, fun b hb => hk.bel.block b (hm.sW b hb), fun o u ho => by
    rw [e2 o fun k hk' e => by
      have := hm.un _ (hun k hk')
      rw [e, ho] at this; cases this]
    exact ho⟩
  have hold : ∀ o ob u, heap o = .live ob → m o = some u → ∀ b, blk u = some b → b < w.heap.size := fun o ob u a1 a2 b a3 => by
    obtain ⟨v', k1, k2, _⟩ := hm.live o ob a1
    rw [a2] at k1; cases k1
    exact (k2.lt a3).2
  have hnew : ∀ p ∈ news, ∃ u, m' p.1 = some u ∧ ORep w.heap.size S' m' w' p.2 u ∧ (∀ b, blk u = some b → ¬ S' b) ∧ ∀ b, blk u = some b → w.heap.size ≤ b := fun p hp => by
    obtain ⟨u, k1, k2, k3⟩ := hk.live _ _ (hlook p hp)
    exact ⟨u, k1, k2, k3, fun b hb => (k2.lt hb).1⟩
  refine ⟨m2, Rep.ren hren _ _ hres, ⟨hm.bel.trans (hk.bel.mono hB), fun b hb => ?_, fun b hb => ?_, fun o ho => ?_, fun o ob ho => ?_, fun o o' ob ob' u u' b ho ho' hu hu' hb hb' => ?_⟩, g⟩
  · rcases h2 b hb with h | ⟨_, h⟩
    · exact hm.sA b h
    · exact .inr (by omega)
  · rcases h2 b hb with h | ⟨h, _⟩
    · have := hm.sW b h; omega
    · exact hk.sW b h
  · rcases wrsOf_look (ρ := ρ) (heap := heap) (news := news) (o := o) with ⟨a1, a2⟩ | ⟨p, _, _, a3⟩
    · rw [a1] at ho
      rw [e2 o a2]; exact hm.un o ho
    · rw [a3] at ho; cases ho
  · rcases wrsOf_look (ρ := ρ) (heap := heap) (news := news) (o := o) with ⟨a1, a2⟩ | ⟨p, a1, rfl, a3⟩
    · rw [a1] at ho
      obtain ⟨u, k1, k2, k3⟩ := hm.live o ob ho
      refine ⟨u, by rw [e2 o a2]; exact k1, k2.mono g fun b hb => hk.bel.block b (k2.lt hb).2, fun b hb hS => ?_⟩
      rcases h2 b hS with h | ⟨_, h⟩
      · exact k3 b hb h
      · have := (k2.lt hb).2; omega
    · rw [a3] at ho
      simp only [Slot.live.injEq] at ho
      obtain ⟨u, k1, k2, k3, k4⟩ := hnew p a1
      refine ⟨u, by rw [e1 _ (List.mem_map.2 ⟨p, a1, rfl⟩)]; exact k1, ?_, fun b hb hS => ?_⟩
      · have k5 := hobj _ _ u (hlook p a1) k2
        rw [← ho]
        cases hp2 : p.2 with
        | box ty cs =>
          rw [hp2] at k5
          obtain ⟨b, us, g1, g2, g3, g4, g5⟩ := k5
          exact ⟨b, us, g1, by omega, RepL.ren hren _ _ g3, g4, g5⟩
        | row e size n cs =>
          rw [hp2] at k5
          obtain ⟨us, g1, g2, g3⟩ := k5
          refine ⟨us, g1, g2, ?_⟩
          rcases g3 with g3 | ⟨b, cap, cur, fz, g4, g5, g6⟩
          · exact .inl g3
          · exact .inr ⟨b, cap, cur, fz, g4, by omega, g6⟩
        | map es =>
          rw [hp2] at k5
          obtain ⟨r, arr, ck, g1, g2, g3⟩ := k5
          exact ⟨r, arr, ck, g1, by omega, g3⟩
      · rcases h2 b hS with h | ⟨h, _⟩
        · have := hm.sW b h; have := k4 b hb; omega
        · exact k3 b hb h
  · rcases wrsOf_look (ρ := ρ) (heap := heap) (news := news) (o := o) with ⟨a1, a2⟩ | ⟨p, a1, rfl, a3⟩ <;> rcases wrsOf_look (ρ := ρ) (heap := heap) (news := news) (o := o') with ⟨b1, b2⟩ | ⟨q, b1, rfl, b3⟩
    · rw [a1] at ho; rw [b1] at ho'
      rw [e2 o a2] at hu; rw [e2 o' b2] at hu'
      exact hm.inj _ _ _ _ _ _ _ ho ho' hu hu' hb hb'
    · exfalso
      rw [a1] at ho
      rw [e2 o a2] at hu
      rw [e1 _ (List.mem_map.2 ⟨q, b1, rfl⟩)] at hu'
      obtain ⟨u2, k1, _, _, k4⟩ := hnew q b1
      rw [hu'] at k1; cases k1
      have := hold o ob u ho hu b hb
      have := k4 b hb'
      omega
    · exfalso
      rw [b1] at ho'
      rw [e2 o' b2] at hu'
      rw [e1 _ (List.mem_map.2 ⟨p, a1, rfl⟩)] at hu
      obtain ⟨u2, k1, _, _, k4⟩ := hnew p a1
      rw [hu] at k1; cases k1
      have := hold o' ob' u' ho' hu' b hb'
      have := k4 b hb
      omega
    · rw [e1 _ (List.mem_map.2 ⟨p, a1, rfl⟩)] at hu
      rw [e1 _ (List.mem_map.2 ⟨q, b1, rfl⟩)] at hu'
      have := hk.inj _ _ _ _ _ _ _ (hlook p a1) (hlook q b1) hu hu' hb hb'
      rw [this]

/-! the operation -/
mutual
def AV.objs : AV → List Nat
  | .agg cs => AV.objsL cs
  | .tup cs => AV.objsL cs
  | .row o => [o]
  | .psl o _ _ _ => [o]
  | .fn _ cs => AV.objsL cs
  | _ => []
def AV.objsL : List AV → List Nat
  | [] => []
  | c :: cs => c.objs ++ AV.objsL cs
end
mutual
theorem view_objs {keep : Nat → Bool} {h h' : Nat → Slot} : ∀ x : AV, (∀ o ∈ x.objs, h o = h' o) → x.view keep h = x.view keep h'
  | .p x, _ => rfl
  | .agg cs, e => by simp only [AV.view]; rw [view_objsL cs _ fun o ho => e o (by simpa only [AV.objs] using ho)]
  | .tup cs, e => by simp only [AV.view]; rw [view_objsL cs _ fun o ho => e o (by simpa only [AV.objs] using ho)]
  | .ptr cs, _ => rfl
  | .ref o off, _ => rfl
  | .row o, e => by simp only [AV.view]; rw [e o (by simp [AV.objs])]
  | .psl o off n size, e => by simp only [AV.view]; rw [e o (by simp [AV.objs])]
  | .fn f cs, e => by simp only [AV.view]; rw [view_objsL cs _ fun o ho => e o (by simpa only [AV.objs] using ho)]
  | .mb b x, _ => rfl
  | .ifc, _ => rfl
  | .mp o, e => rfl
  | .any, _ => rfl
theorem view_objsL {keep : Nat → Bool} {h : Nat → Slot} : ∀ (x : List AV) (h' : Nat → Slot), (∀ o ∈ AV.objsL x, h o = h' o) → AV.viewL keep h x = AV.viewL keep h' x
  | [], _, _ => rfl
  | c :: cs, h', e => by
    simp only [AV.viewL]
    rw [view_objs c fun o ho => e o (by simp [AV.objsL, ho]), view_objsL cs h' fun o ho => e o (by simp [AV.objsL, ho])]
end
def slotOf (rds : List (Nat × Slot)) (o : Nat) : Slot := updL (fun _ => .un) rds o
theorem slotOf_spec {heap : Nat → Slot} : ∀ {rds : List (Nat × Slot)} {o : Nat}, (∀ p ∈ rds, heap p.1 = p.2) → slotOf rds o = .un ∨ slotOf rds o = heap o
  | [], o, _ => .inl rfl
  | (n, s) :: l, o, h => by
    by_cases e : o = n
    · subst e
      exact .inr (by simp only [slotOf, updL, Nat.beq_refl, cond_true]; exact (h (o, s) (by simp)).symm)
    · simp only [slotOf, updL, nbeq e, cond_false]
      exact slotOf_spec fun p hp => h p (by simp [hp])

theorem run_call {P : Program} {d : Option Tmp} {ty : TypeId} {pos : String} {af : Array Edge} {g : Option (Nat × Bool)} {x : Operand} {args : Array Operand} {ts : Array TypeId} {f : FuncId} {fn : Func} (hf : P.funcs[f]? = some fn) (hb : fn.body.isNone = false)
    (hn : (fn.name == "runtime.NumGoroutine") = false) {ev : Operand → Value} {cs : Array Value} (hx : ev x = .func (.func f) #[] cs) (w : World) :
    (execOp ev ⟨d, .call { callee := .value x, args := args, argTypes := ts }, ty, pos, af, g⟩).run P w = .ok (.enter f (args.map ev ++ cs)) w := by
  simp only [execOp, resolve, hx, Deferred.ofValue, invoke, callFunc, Sem.run_bind, Sem.run_pure, Result.andThen_ok, run_program, hf, hn, hb, Bool.false_eq_true, if_false]
  simp

section
variable {P : Program} {d : Option Tmp} {ty : TypeId} {pos : String} {af : Array Edge} {g : Option (Nat × Bool)} {x : Operand} {args : Array Operand} {ts : Array TypeId} {f : FuncId} {fn : Func}
theorem fn_args {S : Nat → Prop} {m : Nat → Option Value} {w : World} {ev : Operand → Value} {cs xs : List AV} (h : RepL S m w (.fn f cs :: xs) ((Op.call { callee := .value x, args := args, argTypes := ts }).operands.toList.map ev)) :
    ∃ us, ev x = .func (.func f) #[] us.toArray ∧ RepL S m w (xs ++ cs) ((args.map ev).toList ++ us) := by
  have h' : RepL S m w (.fn f cs :: xs) (ev x :: args.toList.map ev) := by simpa [Op.operands, Call.operands] using h
  simp only [RepL, Rep] at h'
  obtain ⟨u, vs, h1, ⟨us, h2, h3⟩, h4⟩ := h'
  simp only [List.cons.injEq] at h1
  refine ⟨us, by rw [h1.1]; exact h2, ?_⟩
  rw [Array.toList_map, h1.2]
  exact h4.append h3
/-- a call whose results hold no shared slice: the arguments may be the caller's own rows -/
theorem a_callV {xs cs : List AV} {rds : List (Nat × Slot)} {res : AV} {news : List (Nat × AObj)} (ρ : Nat → Nat) (hf : P.funcs[f]? = some fn) (hb : fn.body.isNone = false) (hn : (fn.name == "runtime.NumGoroutine") = false)
    (hC : Fn P f (AV.viewL (fun _ => false) (slotOf rds) (xs ++ cs)) res news) (h1 : res.noSl = true) (h2 : news.all (fun p => p.2.noSl) = true) (h3 : res.okIn (news.map Prod.fst) = true) (h4 : nodupB (news.map Prod.fst) = true) (h5 : nodupB (news.map fun p => ρ p.1) = true) :
    AOp P ⟨d, .call { callee := .value x, args := args, argTypes := ts }, ty, pos, af, g⟩ (.fn f cs :: xs) (rds ++ news.map fun p => (ρ p.1, .un)) (wrsOf ρ news) (res.ren ρ) := by
  intro w0 A S m heap w ev hm hR hrd
  obtain ⟨us, e1, e2⟩ := fn_args hR
  unfold Out
  rw [run_call hf hb hn e1]
  have hO : ∀ o ob, slotOf rds o = .live ob → ∃ v, m o = some v ∧ ORep w0.heap.size S m w ob v := fun o ob ho => by
    rcases slotOf_spec (heap := heap) (rds := rds) (o := o) (fun p hp => hrd p (by simp [hp])) with h | h
    · rw [h] at ho; cases ho
    · rw [h] at ho
      obtain ⟨v, k1, k2, _⟩ := hm.live o ob ho
      exact ⟨v, k1, k2⟩
  have hT : ∀ o ob v b, slotOf rds o = .live ob → m o = some v → blk v = some b → b < w.heap.size := fun o ob v b ho hv hb => by
    obtain ⟨v', k1, k2⟩ := hO o ob ho
    rw [hv] at k1; cases k1
    exact (k2.lt hb).2
  have e3 := viewL_rep (keep := fun _ => false) (T := fun b => b < w.heap.size) (m' := fun _ => none) hO (fun b hb => hm.sW b hb)
    (fun o off n size u _ hr => sliceView_rep hO (fun b hb => hm.sW b hb) (fun ob v b g1 g2 g3 => hT o ob v b g1 g2 g3) hr)
    (fun o u _ hr => rowView_rep hO (fun b hb => hm.sW b hb) (fun ob v b g1 g2 g3 => hT o ob v b g1 g2 g3) hr) (fun o v hk => by cases hk) _ _ e2
  have hcall := hC w (fun b => b < w.heap.size) _ (fun b h => h) e3
  have e4 : args.map ev ++ us.toArray = ((args.map ev).toList ++ us).toArray := by simp
  rw [e4]
  refine hcall.mono fun e w' ⟨v, he, S', m', hres, hk⟩ => ⟨v, he, ?_⟩
  obtain ⟨m2, k1, k2, k3⟩ := res_merge (S2 := S) ρ hm hk (Rep.noSl _ _ h1 hres) (fun o ob u ho hr => hr.noSl (by
      have := lookO_live ho
      exact List.all_eq_true.1 h2 _ this)) (fun b h => h) (fun b h => .inl h) (fun k hk => by
      obtain ⟨p, hp, rfl⟩ := List.mem_map.1 hk
      exact hrd (ρ p.1, .un) (List.mem_append_right _ (List.mem_map.2 ⟨p, hp, rfl⟩))) h4 h5 h3
  exact ⟨S, m2, k1, k2, k3⟩
/-- a call on data that nobody writes to: the results may share it -/
theorem a_callS {xs cs : List AV} {res : AV} {news : List (Nat × AObj)} (ρ : Nat → Nat) (hf : P.funcs[f]? = some fn) (hb : fn.body.isNone = false) (hn : (fn.name == "runtime.NumGoroutine") = false)
    (hC : Fn P f (xs ++ cs) res news) (h1 : AV.okInL [] (xs ++ cs) = true) (h3 : res.okIn (news.map Prod.fst) = true) (h4 : nodupB (news.map Prod.fst) = true) (h5 : nodupB (news.map fun p => ρ p.1) = true) :
    AOp P ⟨d, .call { callee := .value x, args := args, argTypes := ts }, ty, pos, af, g⟩ (.fn f cs :: xs) (news.map fun p => (ρ p.1, .un)) (wrsOf ρ news) (res.ren ρ) := by
  intro w0 A S m heap w ev hm hR hrd
  obtain ⟨us, e1, e2⟩ := fn_args hR
  unfold Out
  rw [run_call hf hb hn e1]
  have e3 : RepL S (fun _ => none) w (xs ++ cs) ((args.map ev).toList ++ us) := by
    have ren_id : ∀ x : List AV, AV.renL (fun o => o) x = x := by
      intro x
      exact renL_id x
    exact RepL.unren (m := m) (K := []) (ρ := fun o => o) (fun o ho => by cases ho) _ _ h1 (by rw [ren_id]; exact e2)
  have hcall := hC w S _ hm.sW e3
  have e4 : args.map ev ++ us.toArray = ((args.map ev).toList ++ us).toArray := by simp
  rw [e4]
  refine hcall.mono fun e w' ⟨v, he, S', m', hres, hk⟩ => ⟨v, he, ?_⟩
  have hsub : ∀ b, S' b → S b ∨ (S' b ∧ w.heap.size ≤ b) := fun b hb => (hk.sA b hb).imp id fun h => ⟨hb, h⟩
  obtain ⟨m2, k1, k2, k3⟩ := res_merge (S2 := fun b => S b ∨ (S' b ∧ w.heap.size ≤ b)) ρ hm hk (Rep.mono ⟨hsub, fun _ _ => rfl, fun _ _ h => h⟩ _ _ hres) (fun o ob u ho hr => hr.mono ⟨hsub, fun _ _ => rfl, fun _ _ h => h⟩ fun _ _ => rfl) (fun b h => .inl h) (fun b h => h) (fun k hk => by
      obtain ⟨p, hp, rfl⟩ := List.mem_map.1 hk
      exact hrd (ρ p.1, .un) (List.mem_map.2 ⟨p, hp, rfl⟩)) h4 h5 h3
  exact ⟨_, m2, k1, k2, k3⟩
theorem a_makeFunc {cs : List AV} {capt : Array Operand} : AOp P ⟨d, .makeFunc (.func f) #[] capt, ty, pos, af, g⟩ cs [] [] (.fn f cs) :=
  aop_pure fun S m w ev hr => by
    have hr' : RepL S m w cs (capt.toList.map ev) := by simpa [Op.operands] using hr
    refine ⟨.func (.func f) #[] (capt.map ev), by simp [execOp, Instr.makeFunc], ?_⟩
    simp only [Rep]
    exact ⟨capt.toList.map ev, by rw [← Array.toList_map, Array.toArray_toList], hr'⟩
end
end Go.Proofs.Ytgbgpidimipfjaa
