/- The machine over data: rows whose elements are own rows, lent to a call. -/
import Derived.Test.YtmdkfhmmhiofbaaMa4
namespace Go.Proofs.Ytmdkfhmmhiofbaa
open Go.RowKit
set_option linter.unusedVariables false

section
variable {P : Program} {d : Option Tmp} {ty : TypeId} {pos : String} {af : Array Edge} {g : Option (Nat × Bool)}
/-- a new row whose elements may be own rows: a variable of so many cells, and the slice of it -/
theorem a_buildSliceB {t e : TypeId} {len size : Nat} (d' : Nat) {parts : Array (Nat × Operand)} {z0 : Array Value} {xs es : List AV} (hu : P.underlying t = some (.slice e)) (hi : (P.info? e).map (·.size) = some size) (hz : (P.info? e).map (fun i => i.zero.map Value.cells) = some (some z0))
    (hl : len * size ≤ 2 ^ 24) (hl0 : 0 < len * size) (h1 : z0.toList.all (fun x => x.oneCell') = true)
    (hf : fillA (fun i => some (i * size, size)) (((List.range (len * size)).map fun i => (AV.p (.v (z0.getD (i % z0.size) default))))) ((parts.toList.map Prod.fst).zip xs) = some es) (hzs : 0 < z0.size) :
    AOp P ⟨d, .buildSlice t len parts, ty, pos, af, g⟩ xs [(d', .un)] [(d', .live (.box e es))] (.psl d' 0 len size) := by
  intro w0 A S mm heap w ev hm hR hrd
  have hd' : heap d' = .un := rd1 hrd
  have hr' : RepL S mm w xs ((parts.toList.map Prod.snd).map ev) := by simpa [Op.operands] using hR
  obtain ⟨k1, k2⟩ := parts_rep hr'
  have h1' : ∀ x ∈ z0.toList, x.oneCell' = true := by simpa only [List.all_eq_true] using h1
  have hget : ∀ i, (z0[i % z0.size]!).oneCell' = true ∧ z0[i % z0.size]! = z0.getD (i % z0.size) default := fun i => by
    have hlt := Nat.mod_lt i hzs
    rw [getElem!_pos z0 _ hlt]
    refine ⟨h1' _ (by simp), ?_⟩
    simp [Array.getD_eq_getD_getElem?, hlt]
  have c1 : RepL S mm w ((List.range (len * size)).map fun i => (AV.p (.v (z0.getD (i % z0.size) default)))) ((Array.range (len * size)).map (z0[· % z0.size]!)).toList := by
    have : ((Array.range (len * size)).map (z0[· % z0.size]!)).toList = (List.range (len * size)).map (fun i => z0[i % z0.size]!) := by simp [Array.toList_range]
    rw [this]
    generalize List.range (len * size) = l
    induction l with
    | nil => simp [RepL]
    | cons i l ih =>
      simp only [List.map_cons, RepL, Rep, PRep]
      exact ⟨_, _, rfl, ⟨(hget i).2, (hget i).2 ▸ (hget i).1⟩, ih⟩
  have c2 : ∀ x ∈ ((Array.range (len * size)).map (z0[· % z0.size]!)).toList, x.oneCell' = true := by
    intro x hx
    simp only [Array.toList_map, List.mem_map] at hx
    obtain ⟨i, _, rfl⟩ := hx
    exact (hget i).1
  obtain ⟨us', e1, e2, e3⟩ := fill_rep c1 c2 k1 k2 hf
  have hex : (execOp ev ⟨d, .buildSlice t len parts, ty, pos, af, g⟩).run P w = .ok (.value (.slice (some ⟨w.heap.size, 0, none⟩) len len)) (w.alloc (.cells us' e)) := by
    cases hq : P.info? e with
    | none => simp [hq] at hi
    | some i =>
      simp [hq] at hi hz
      obtain ⟨z, hz1, hz2⟩ := hz
      have e1' : Instr.fill (fun i => some (i * size, size)) ((Array.range (len * size)).map (z0[· % z0.size]!)) (List.map (fun p => (p.fst, ev p.snd)) parts.toList) = some us' := e1
      have hlim : ¬ (len * size > 2 ^ 24) := by omega
      have h0 : ¬ (len * size = 0) := by omega
      simp only [execOp, Instr.buildSlice, Sem.run_bind, run_underlying hu, Result.andThen_ok, run_sizeOf (P := P) (t := e) (n := size) (by rw [hq]; simp [hi]), hlim, if_false, h0, zeroValue, typeInfo, run_program, hq, hz1, Sem.run_pure, Array.toList_map, Sem.run_ite, hz2]
      simp only [e1', newRow, Sem.run_bind, run_newObj, Result.andThen_ok, Sem.run_pure]
      rfl
  unfold Out
  rw [hex]
  have hb : Below w.heap.size w (w.alloc (.cells us' e)) := (Below.refl _ _).alloc (Nat.le_refl _) _
  have hgr := grow_new hm hb hd' (.pointer (some ⟨w.heap.size, 0, none⟩))
  obtain ⟨f1, f2⟩ := mem_new hm hb d' hd' (.pointer (some ⟨w.heap.size, 0, none⟩)) (.box e es) (fun b hb => by simp [blk] at hb; omega)
    ⟨w.heap.size, us'.toList, rfl, hm.hB, RepL.mono hgr _ _ e2, e3, by simpa using heap_alloc_new w (.cells us' e)⟩
  exact ⟨S, _, by simp only [Rep]; exact ⟨_, _, rfl, Nat.le_refl _, .inr ⟨w.heap.size, .pointer (some ⟨w.heap.size, 0, none⟩), by simp [setM], rfl, rfl⟩⟩, f1, f2⟩
end

/-- what a callee sees of arguments, by the objects that are read -/
def ViewsTo (rds : List (Nat × Slot)) (xs zs : List AV) : Prop :=
  ∀ (w0 : World) (A S : Nat → Prop) (m : Nat → Option Value) (heap : Nat → Slot) (w : World) (us : List Value), Mem w0 A S m heap w → (∀ p ∈ rds, heap p.1 = p.2) → RepL S m w xs us → RepL (fun b => b < w.heap.size) (fun _ => none) w zs us
theorem viewsTo_nil {rds : List (Nat × Slot)} : ViewsTo rds [] [] := fun w0 A S m heap w us hm hrd hr => by simpa only [RepL] using hr
theorem viewsTo_p {rds : List (Nat × Slot)} {x : PV} {xs zs : List AV} (h : ViewsTo rds xs zs) : ViewsTo rds (.p x :: xs) (.p x :: zs) := fun w0 A S m heap w us hm hrd hr => by
  simp only [RepL] at hr ⊢
  obtain ⟨u, us, rfl, h1, h2⟩ := hr
  simp only [Rep] at h1
  exact ⟨u, us, rfl, by simp only [Rep]; exact PRep.mono (fun b hb => hm.sW b hb) (fun _ _ => rfl) _ _ h1, h w0 A S m heap w us hm hrd h2⟩
theorem viewsTo_box {rds : List (Nat × Slot)} {o n : Nat} {e : TypeId} {cells xs zs : List AV} {cs : List PV} (ho : (o, Slot.live (.box e cells)) ∈ rds) (hn : cells.length = n) (hv : AV.viewL (fun _ => false) (slotOf rds) cells = cs.map AV.p) (h : ViewsTo rds xs zs) : ViewsTo rds (.psl o 0 n 1 :: xs) (.p (.sl n 1 cs) :: zs) := fun w0 A S m heap w us hm hrd hr => by
  simp only [RepL] at hr ⊢
  obtain ⟨u, us, rfl, h1, h2⟩ := hr
  refine ⟨u, us, rfl, ?_, h w0 A S m heap w us hm hrd h2⟩
  have hO : ∀ o ob, slotOf rds o = .live ob → ∃ v, m o = some v ∧ ORep w0.heap.size S m w ob v := fun o ob ho => by
    rcases slotOf_spec (heap := heap) (rds := rds) (o := o) (fun p hp => hrd p hp) with h | h
    · rw [h] at ho; cases ho
    · rw [h] at ho
      obtain ⟨v, k1, k2, _⟩ := hm.live o ob ho
      exact ⟨v, k1, k2⟩
  have hT : ∀ o ob v b, slotOf rds o = .live ob → m o = some v → blk v = some b → b < w.heap.size := fun o ob v b ho hv hb => by
    obtain ⟨v', k1, k2⟩ := hO o ob ho
    rw [hv] at k1; cases k1
    exact (k2.lt hb).2
  have hb := hrd _ ho
  obtain ⟨v, k1, k2, _⟩ := hm.live _ _ hb
  obtain ⟨b, ws, rfl, q2, q3, q4, q5⟩ := k2
  have e3 := viewL_rep (keep := fun _ => false) (T := fun b => b < w.heap.size) (m' := fun _ => none) hO (fun b hb => hm.sW b hb)
    (fun o off n size u _ hr => sliceView_rep hO (fun b hb => hm.sW b hb) (fun ob v b g1 g2 g3 => hT o ob v b g1 g2 g3) hr)
    (fun o u _ hr => rowView_rep hO (fun b hb => hm.sW b hb) (fun ob v b g1 g2 g3 => hT o ob v b g1 g2 g3) hr) (fun o v hk => by cases hk) _ _ q3
  rw [hv] at e3
  have e4 := repL_prepL e3
  have hlen : cs.length = n := by
    have := congrArg List.length hv
    have h2 : ∀ l : List AV, (AV.viewL (fun _ => false) (slotOf rds) l).length = l.length := by
      intro l
      induction l with
      | nil => rfl
      | cons a l ih => simp only [AV.viewL, List.length_cons, ih]
    rw [h2, List.length_map] at this
    omega
  simp only [Rep] at h1
  obtain ⟨a, cap, rfl, g1, g2⟩ := h1
  simp only [Rep, PRep]
  refine ⟨a, cap, ws, rfl, g1, by rw [Nat.mul_one]; exact hlen, e4, ?_⟩
  rcases g2 with g2 | ⟨b', v0, i1, i2, i3⟩
  · exact .inl g2
  · have hv0 : v0 = .pointer (some ⟨b, 0, none⟩) := Option.some.inj (i1.symm.trans k1)
    subst hv0
    simp only [blk, Option.some.injEq] at i2
    subst i2
    have hlt : b < w.heap.size := (Array.getElem?_eq_some_iff.1 q5).1
    refine .inr ⟨b, 0, i3, hlt, fun j x hj => ?_⟩
    have hc : w.cell? ⟨b, 0 + j, none⟩ = ws.toArray[0 + j]? := by
      simp [World.cell?, q5]
    rw [hc]
    simpa using hj
section
variable {P : Program} {d : Option Tmp} {ty : TypeId} {pos : String} {af : Array Edge} {g : Option (Nat × Bool)} {x : Operand} {args : Array Operand} {ts : Array TypeId} {f : FuncId} {fn : Func}
theorem a_callX {xs cs zs : List AV} {rds : List (Nat × Slot)} {res : AV} {news : List (Nat × AObj)} (ρ : Nat → Nat) (hf : P.funcs[f]? = some fn) (hb : fn.body.isNone = false) (hn : (fn.name == "runtime.NumGoroutine") = false)
    (hC : Fn P f zs res news) (hV : ViewsTo rds (xs ++ cs) zs) (h1 : res.noSl = true) (h2 : news.all (fun p => p.2.noSl) = true) (h3 : res.okIn (news.map Prod.fst) = true) (h4 : nodupB (news.map Prod.fst) = true) (h5 : nodupB (news.map fun p => ρ p.1) = true) :
    AOp P ⟨d, .call { callee := .value x, args := args, argTypes := ts }, ty, pos, af, g⟩ (.fn f cs :: xs) (rds ++ news.map fun p => (ρ p.1, .un)) (wrsOf ρ news) (res.ren ρ) := by
  intro w0 A S m heap w ev hm hR hrd
  obtain ⟨us, e1, e2⟩ := fn_args hR
  unfold Out
  rw [run_call hf hb hn e1]
  have e3 := hV w0 A S m heap w _ hm (fun p hp => hrd p (by simp [hp])) e2
  have hcall := hC w (fun b => b < w.heap.size) _ (fun b h => h) (hm.gl.below hm.bel) e3
  have e4 : args.map ev ++ us.toArray = ((args.map ev).toList ++ us).toArray := by simp
  rw [e4]
  refine hcall.mono fun e w' ⟨v, he, S', m', hres, hk⟩ => ⟨v, he, ?_⟩
  obtain ⟨m2, k1, k2, k3⟩ := res_merge (S2 := S) ρ hm hk (Rep.noSl _ _ h1 hres) (fun o ob u ho hr => hr.noSl (by
      have := lookO_live ho
      exact List.all_eq_true.1 h2 _ this)) (fun b h => h) (fun b h => .inl h) (fun k hk => by
      obtain ⟨p, hp, rfl⟩ := List.mem_map.1 hk
      exact hrd (ρ p.1, .un) (List.mem_append_right _ (List.mem_map.2 ⟨p, hp, rfl⟩))) h4 h5 h3
  exact ⟨S, m2, k1, k2, k3⟩
end
section
variable {P : Program} {ops : Array Oper} {K : List Foot → St → Prop} {l : List Oper} {fs : List Foot} {st : St} {d : Option Tmp} {ty : TypeId} {pos : String} {af : Array Edge} {gd : Option (Nat × Bool)}
/-- a call that is lent rows of own rows -/
theorem r_callX {x : Operand} {args : Array Operand} {ts : Array TypeId} {f : FuncId} {fn : Func} {zs cs : List AV} {res : AV} {news : List (Nat × AObj)} (ρ : Nat → Nat) {rds : List (Nat × Slot)} (hC : Fn P f zs res news) (hx : st.ev x = .fn f cs) (hV : ViewsTo rds (args.toList.map st.ev ++ cs) zs) (hf : P.funcs[f]? = some fn) (hb : fn.body.isNone = false) (hn : (fn.name == "runtime.NumGoroutine") = false)
    (h1 : res.noSl = true) (h2 : news.all (fun p => p.2.noSl) = true) (h3 : res.okIn (news.map Prod.fst) = true) (h4 : nodupB (news.map Prod.fst) = true) (h5 : nodupB (news.map fun p => ρ p.1) = true)
    (hrd : Rds st rds) (hun : Rds st (news.map fun p => (ρ p.1, .un))) (hg : awanted ops ⟨d, .call { callee := .value x, args := args, argTypes := ts }, ty, pos, af, gd⟩ st = some true) {r : AV} (hr : res.ren ρ = r) {wrs : List (Nat × Slot)} (hw : wrsOf ρ news = wrs)
    (k : ARun P ops K l (fs ++ [(rds.map Prod.fst ++ news.map (fun p => ρ p.1), news.map fun p => ρ p.1)]) ((st.upd wrs).put d r)) :
    ARun P ops K (⟨d, .call { callee := .value x, args := args, argTypes := ts }, ty, pos, af, gd⟩ :: l) fs st := by
  subst hr
  subst hw
  have hop := a_callX (P := P) (d := d) (ty := ty) (pos := pos) (af := af) (g := gd) (x := x) (args := args) (ts := ts) ρ hf hb hn hC hV h1 h2 h3 h4 h5
  refine r_run hop ?_ hg ?_ ?_
  · rw [← hx]
    simp [Op.operands, Call.operands]
  · have app : ∀ a b : List (Nat × Slot), Rds st a → Rds st b → Rds st (a ++ b) := by
      intro a
      induction a with
      | nil => intro b _ h; exact h
      | cons p a ih => intro b h1 h2; exact ⟨h1.1, ih b h1.2 h2⟩
    exact app _ _ hrd hun
  · have e1 : (rds ++ news.map fun p => (ρ p.1, Slot.un)).map Prod.fst = rds.map Prod.fst ++ news.map (fun p => ρ p.1) := by
      simp [List.map_map, Function.comp_def]
    have e2 : (wrsOf ρ news).map Prod.fst = news.map fun p => ρ p.1 := by simp [wrsOf, List.map_map, Function.comp_def]
    rw [e1, e2]
    exact k
end
end Go.Proofs.Ytmdkfhmmhiofbaa
