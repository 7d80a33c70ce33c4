/- The machine over data: what each operation does. -/
import Derived.Test.YtgbgpidimipfjaaAbf
import Derived.IntWalk
import Derived.Laws.StructEq
namespace Go.Proofs.Ytgbgpidimipfjaa
open Go.RowKit Go.Sort
set_option linter.unusedVariables false

def Rds (st : St) : List (Nat × Slot) → Prop
  | [] => True
  | (o, s) :: l => st.heap o = s ∧ Rds st l
theorem Rds.all {st : St} : ∀ {l : List (Nat × Slot)}, Rds st l → ∀ p ∈ l, st.heap p.1 = p.2
  | [], _, p, hp => by cases hp
  | (o, s) :: l, h, p, hp => by
    rcases List.mem_cons.1 hp with rfl | hp
    · exact h.1
    · exact Rds.all h.2 p hp

section
variable {P : Program} {ops : Array Oper} {K : List Foot → St → Prop} {o : Oper} {l : List Oper} {fs : List Foot} {st : St}
theorem r_run {xs : List AV} {rds wrs : List (Nat × Slot)} {r : AV} (h : AOp P o xs rds wrs r) (hx : o.op.operands.toList.map st.ev = xs) (hg : awanted ops o st = some true) (hr : Rds st rds)
    (k : ARun P ops K l (fs ++ [(rds.map Prod.fst, wrs.map Prod.fst)]) ((st.upd wrs).put o.dst r)) : ARun P ops K (o :: l) fs st :=
  ⟨_, _, .run rds wrs r hg (hx ▸ h) hr.all, k⟩
/-- without any access to memory -/
theorem r_pure {xs : List AV} {r : AV} (h : AOp P o xs [] [] r) (hx : o.op.operands.toList.map st.ev = xs) (hg : awanted ops o st = some true)
    (k : ARun P ops K l (fs ++ [([], [])]) (st.put o.dst r)) : ARun P ops K (o :: l) fs st :=
  ⟨_, _, .run [] [] r hg (hx ▸ h) (fun p hp => by cases hp), k⟩
/-- a guarded operation, whether it is wanted or not -/
theorem r_mb {xs xs' : List AV} {rds : List (Nat × Slot)} {r : AV} (b : Bool) (hg : awanted ops o st = some b) (hx : o.op.operands.toList.map st.ev = xs) 
    (hxs : b = true → ∀ S m w us, RepL S m w xs us → RepL S m w xs' us) (h : b = true → AOp P o xs' rds [] r) (hr : b = true → Rds st rds)
    (k : ARun P ops K l (fs ++ [(rds.map Prod.fst, [])]) (st.put o.dst (.mb b r))) : ARun P ops K (o :: l) fs st := by
  cases b with
  | true =>
    refine ⟨(rds.map Prod.fst, []), _, .run rds [] (.mb true r) hg ?_ (hr rfl).all, k⟩
    intro w0 A S m heap w ev hm hR hrd
    have := h rfl w0 A S m heap w ev hm (hxs rfl _ _ _ _ (hx ▸ hR)) hrd
    unfold Out at this ⊢
    generalize (execOp ev o).run P w = res at this ⊢
    cases res with
    | halt x w' => exact this
    | ok n w' =>
      cases n <;> simp only [] at this ⊢
      case value v =>
        obtain ⟨S', m', h1, h2, h3⟩ := this
        exact ⟨S', m', by simp only [Rep]; exact fun _ => h1, h2, h3⟩
      case skip =>
        obtain ⟨S', m', h1, h2, h3⟩ := this
        exact ⟨S', m', by simp only [Rep]; exact fun _ => h1, h2, h3⟩
      case enter f args =>
        refine this.mono fun e w'' ⟨v, he, S', m', h1, h2, h3⟩ => ⟨v, he, S', m', by simp only [Rep]; exact fun _ => h1, h2, h3⟩
      all_goals exact this
  | false => exact ⟨(rds.map Prod.fst, []), _, .skip _ (.mb false r) hg (fun S m w u => by simp [Rep]), k⟩
end

/-! ### operations that touch no memory -/
theorem aop_pure {P : Program} {o : Oper} {xs : List AV} {r : AV} (h : ∀ S m w (ev : Operand → Value), RepL S m w xs (o.op.operands.toList.map ev) → ∃ v, (execOp ev o).run P w = .ok (.value v) w ∧ Rep S m w r v) :
    AOp P o xs [] [] r := by
  intro w0 A S m heap w ev hm hR _
  obtain ⟨v, h1, h2⟩ := h S m w ev hR
  unfold Out
  rw [h1]
  exact ⟨S, m, h2, hm, Grow.refl _ _ _⟩
theorem aop_read {P : Program} {o : Oper} {xs : List AV} {rds : List (Nat × Slot)} {r : AV} (h : ∀ w0 A S m heap w (ev : Operand → Value), Mem w0 A S m heap w → RepL S m w xs (o.op.operands.toList.map ev) → (∀ p ∈ rds, heap p.1 = p.2) →
    ∃ v, (execOp ev o).run P w = .ok (.value v) w ∧ Rep S m w r v) : AOp P o xs rds [] r := by
  intro w0 A S m heap w ev hm hR hrd
  obtain ⟨v, h1, h2⟩ := h w0 A S m heap w ev hm hR hrd
  unfold Out
  rw [h1]
  exact ⟨S, m, h2, hm, Grow.refl _ _ _⟩

theorem repL1 {S : Nat → Prop} {m : Nat → Option Value} {w : World} {x : AV} {u : Value} (h : RepL S m w [x] [u]) : Rep S m w x u := by
  simp only [RepL] at h
  obtain ⟨a, as, h1, h2, h3⟩ := h
  subst h3
  simp only [List.cons.injEq, and_true] at h1
  rw [h1]; exact h2
theorem repL2 {S : Nat → Prop} {m : Nat → Option Value} {w : World} {x y : AV} {u v : Value} (h : RepL S m w [x, y] [u, v]) : Rep S m w x u ∧ Rep S m w y v := by
  simp only [RepL] at h
  obtain ⟨a, as, h1, h2, b, bs, h4, h5, h6⟩ := h
  subst h6
  subst h4
  simp only [List.cons.injEq, and_true] at h1
  rw [h1.1, h1.2]; exact ⟨h2, h5⟩
theorem repL3 {S : Nat → Prop} {m : Nat → Option Value} {w : World} {x y z : AV} {u v t : Value} (h : RepL S m w [x, y, z] [u, v, t]) : Rep S m w x u ∧ Rep S m w y v ∧ Rep S m w z t := by
  simp only [RepL] at h
  obtain ⟨a, as, h1, h2, b, bs, h4, h5, c, cs, h6, h7, h8⟩ := h
  subst h8
  subst h6
  subst h4
  simp only [List.cons.injEq, and_true] at h1
  rw [h1.1, h1.2.1, h1.2.2]; exact ⟨h2, h5, h7⟩
theorem rep_v {S : Nat → Prop} {m : Nat → Option Value} {w : World} {x u : Value} (h : Rep S m w (.p (.v x)) u) : u = x := by
  simp only [Rep, PRep] at h; exact h.1

theorem rep_mk {S : Nat → Prop} {m : Nat → Option Value} {w : World} {x : Value} (h : x.oneCell' = true) : Rep S m w (.p (.v x)) x := by
  simp only [Rep, PRep]; exact ⟨trivial, h⟩

def AV.cells : AV → List AV
  | .agg cs => cs
  | x => [x]
def AV.stor : AV → Bool
  | .tup _ => false
  | .mb .. => false
  | .any => false
  | _ => true
theorem cells_one {u : Value} (h : u.oneCell' = true) : u.cells = #[u] := by cases u <;> simp_all [Value.cells, Value.oneCell']
theorem cells_rep {S : Nat → Prop} {m : Nat → Option Value} {w : World} {x : AV} {u : Value} (h : Rep S m w x u) (hs : x.stor = true) : RepL S m w x.cells u.cells.toList ∧ ∀ y ∈ u.cells.toList, y.oneCell' = true := by
  have one : u.oneCell' = true → x.cells = [x] → RepL S m w x.cells u.cells.toList ∧ ∀ y ∈ u.cells.toList, y.oneCell' = true := by
    intro h1 h2
    rw [cells_one h1, h2]
    refine ⟨by simp only [RepL]; exact ⟨u, [], rfl, h, rfl⟩, fun y hy => ?_⟩
    have : y = u := by simpa using hy
    rw [this]; exact h1
  cases x <;> simp only [AV.stor, Bool.false_eq_true] at hs
  case agg cs =>
    simp only [Rep] at h
    obtain ⟨us, rfl, h1, h2⟩ := h
    exact ⟨by simpa [AV.cells, Value.cells] using h1, by simpa [Value.cells] using h2⟩
  case p x => exact one (by simp only [Rep] at h; exact h.one) rfl
  case ptr cs => simp only [Rep] at h; obtain ⟨b, off, vs, rfl, _⟩ := h; exact one rfl rfl
  case ref o off => simp only [Rep] at h; obtain ⟨b, _, _, _, rfl⟩ := h; exact one rfl rfl
  case row o => simp only [Rep] at h; obtain ⟨_, a, n, c, rfl⟩ := h; exact one rfl rfl
  case psl o off n size => simp only [Rep] at h; obtain ⟨a, cap, rfl, _⟩ := h; exact one rfl rfl
  case fn f cs => simp only [Rep] at h; obtain ⟨us, rfl, _⟩ := h; exact one rfl rfl
  case ifc => simp only [Rep] at h; obtain ⟨t, v, rfl⟩ := h; exact one rfl rfl
  case mp o => simp only [Rep] at h; obtain ⟨_, r, rfl⟩ := h; exact one rfl rfl

def setR {α : Type} (l : List α) (off : Nat) (vs : List α) : List α := l.take off ++ vs ++ l.drop (off + vs.length)
theorem setR_length {α : Type} {l : List α} {off : Nat} {vs : List α} (h : off + vs.length ≤ l.length) : (setR l off vs).length = l.length := by
  simp only [setR, List.length_append, List.length_take, List.length_drop]; omega
theorem RepL.setR {S : Nat → Prop} {m : Nat → Option Value} {w : World} {cs xs : List AV} {us vs : List Value} (off : Nat) (h : RepL S m w cs us) (k : RepL S m w xs vs) : RepL S m w (setR cs off xs) (setR us off vs) := by
  unfold Proofs.Ytgbgpidimipfjaa.setR
  rw [k.length]
  exact ((h.take off).append k).append (h.drop _)
theorem PRepL.setR {S : Nat → Prop} {w : World} {cs xs : List PV} {us vs : List Value} (off : Nat) (h : PRepL S w cs us) (k : PRepL S w xs vs) : PRepL S w (setR cs off xs) (setR us off vs) := by
  unfold Proofs.Ytgbgpidimipfjaa.setR
  rw [k.length]
  exact ((h.take off).append k).append (h.drop _)

theorem run_storeCells_fz (P : Program) (g o : Nat) (t : TypeId) (fz : Nat × Nat) : ∀ (vs : List Value) (i : Nat) (cur : Array Value) (w : World), w.heap[g]? = some (.cells cur t fz) → (∀ i, i < cur.size → ¬ (fz.1 ≤ i ∧ i < fz.2)) →
    o + i + vs.length ≤ cur.size → (∀ v ∈ vs, v.oneCell' = true) →
    (storeCells ⟨g, o, none⟩ vs i).run P w = .ok () (w.setRow g (cur.toList.take (o + i) ++ vs ++ cur.toList.drop (o + i + vs.length)).toArray)
  | [], i, cur, w, hg, _, _, _ => by
    simp only [storeCells, List.append_nil, List.length_nil, Nat.add_zero, List.take_append_drop, Array.toArray_toList]
    rw [setRow_self w g cur t fz hg]
    rfl
  | v :: rest, i, cur, w, hg, hfz, hl, h1 => by
    have hi : o + i < cur.size := by simp at hl; omega
    have hadd : (⟨g, o, none⟩ : Addr).add i = ⟨g, o + i, none⟩ := by unfold Addr.add; split <;> simp_all
    have hcell : w.cell? ⟨g, o + i, none⟩ = some cur[o + i] := by simp [World.cell?, hg, hi]
    have hfro : w.frozen? ⟨g, o + i, none⟩ = false := by
      have := hfz (o + i) hi
      obtain ⟨lo, hi'⟩ := fz
      simp only [World.frozen?, hg, Bool.and_eq_false_iff, decide_eq_false_iff_not]
      simp only at this
      omega
    have hst : (store ((⟨g, o, none⟩ : Addr).add i) v).run P w = .ok () (w.setRow g (cur.setIfInBounds (o + i) v)) := by
      rw [hadd, run_store P w _ v _ (h1 v (by simp)), hcell]
      simp [hfro, setCell_eq_setRow w g (o + i) cur t fz v hg]
    have ih := run_storeCells_fz P g o t fz rest (i + 1) (cur.setIfInBounds (o + i) v) (w.setRow g (cur.setIfInBounds (o + i) v)) (setRow_heap w g cur _ t _ hg) (by simpa using hfz) (by simp at hl ⊢; omega) (fun x hx => h1 x (by simp [hx]))
    simp only [storeCells, Sem.run_bind, hst, Result.andThen_ok, ih, setRow_setRow]
    congr 3
    have e := list_seg_step cur.toList (o + i) v rest (by simp at hl ⊢; omega)
    simpa [Array.toList_setIfInBounds, Nat.add_assoc] using e

/-! ### what becomes of memory -/
section
variable {w0 : World} {A S : Nat → Prop} {m : Nat → Option Value} {heap : Nat → Slot} {w w' : World}
def setM (m : Nat → Option Value) (d : Nat) (v : Value) : Nat → Option Value := fun o => if o = d then some v else m o
theorem Mem.hB (hm : Mem w0 A S m heap w) : w0.heap.size ≤ w.heap.size := hm.bel.size

theorem grow_new (hm : Mem w0 A S m heap w) (hb : Below w.heap.size w w') {d : Nat} (hd : heap d = .un) (v : Value) : Grow S m w S (setM m d v) w' :=
  ⟨fun _ h => h, fun b hS => hb.block b (hm.sW b hS), fun o u hu => by
    have hmd : m d = none := hm.un d hd
    have hne : o ≠ d := fun e => by rw [e, hmd] at hu; cases hu
    simpa [setM, hne] using hu⟩
theorem mem_new (hm : Mem w0 A S m heap w) (hb : Below w.heap.size w w') (d : Nat) (hd : heap d = .un) (v : Value) (ob : AObj) (hv : ∀ b, blk v = some b → w.heap.size ≤ b)
    (ho : ORep w0.heap.size S (setM m d v) w' ob v) : Mem w0 A S (setM m d v) (updL heap [(d, .live ob)]) w' ∧ Grow S m w S (setM m d v) w' := by
  have hmd : m d = none := hm.un d hd
  have g : Grow S m w S (setM m d v) w' := ⟨fun _ h => h, fun b hS => hb.block b (hm.sW b hS), fun o u hu => by
    have hne : o ≠ d := fun e => by rw [e, hmd] at hu; cases hu
    simpa [setM, hne] using hu⟩
  have hother : ∀ o ob' v', heap o = .live ob' → m o = some v' → ∀ b, blk v' = some b → b < w.heap.size := fun o ob' v' h1 h2 b hb' => by
    obtain ⟨u, k1, k2, _⟩ := hm.live o ob' h1
    rw [h2] at k1; cases k1
    exact (k2.lt hb').2
  refine ⟨⟨hm.bel.trans (hb.mono hm.hB), hm.sA, fun b h => Nat.lt_of_lt_of_le (hm.sW b h) hb.size, fun o ho' => ?_, fun o ob' ho' => ?_, fun o o' ob1 ob2 v1 v2 b h1 h2 h3 h4 h5 h6 => ?_⟩, g⟩
  · by_cases e : o = d
    · subst e; simp [updL] at ho'
    · simp only [updL, nbeq e, cond_false] at ho'
      simp only [setM, if_neg e]
      exact hm.un o ho'
  · by_cases e : o = d
    · subst e
      simp only [updL, Nat.beq_refl, cond_true, Slot.live.injEq] at ho'
      subst ho'
      exact ⟨v, by simp [setM], ho, fun b hb' hS => absurd (hm.sW b hS) (by have := hv b hb'; omega)⟩
    · simp only [updL, nbeq e, cond_false] at ho'
      obtain ⟨v', k1, k2, k3⟩ := hm.live o ob' ho'
      exact ⟨v', by simpa [setM, e] using k1, k2.mono g fun b hb' => hb.block b (k2.lt hb').2, k3⟩
  · by_cases e : o = d <;> by_cases e' : o' = d
    · rw [e, e']
    · subst e
      simp only [updL, nbeq e', cond_false] at h2
      simp only [setM, if_neg e'] at h4
      simp only [setM, if_true, Option.some.injEq] at h3
      subst h3
      have := hother o' ob2 v2 h2 h4 b h6
      have := hv b h5
      omega
    · subst e'
      simp only [updL, nbeq e, cond_false] at h1
      simp only [setM, if_neg e] at h3
      simp only [setM, if_true, Option.some.injEq] at h4
      subst h4
      have := hother o ob1 v1 h1 h3 b h5
      have := hv b h6
      omega
    · simp only [updL, nbeq e, cond_false] at h1
      simp only [updL, nbeq e', cond_false] at h2
      simp only [setM, if_neg e] at h3
      simp only [setM, if_neg e'] at h4
      exact hm.inj _ _ _ _ _ _ _ h1 h2 h3 h4 h5 h6

/-- a store into one object -/
theorem mem_store (hm : Mem w0 A S m heap w) {o : Nat} {ob ob' : AObj} {v : Value} {b : Nat} {cur : Array Value} {t : TypeId} {fz : Nat × Nat} (cs : Array Value) (hl : heap o = .live ob) (hv : m o = some v) (hb : blk v = some b)
    (ho : ORep w0.heap.size S m (w.setRow b cs) ob' v) :
    Mem w0 A S m (updL heap [(o, .live ob')]) (w.setRow b cs) ∧ Grow S m w S m (w.setRow b cs) := by
  obtain ⟨v', k1, k2, k3⟩ := hm.live o ob hl
  rw [hv] at k1; cases k1
  have hlt := k2.lt hb
  have g : Grow S m w S m (w.setRow b cs) := ⟨fun _ h => h, fun c hS => setRow_other w b c cs (fun e => k3 b hb (e ▸ hS)), fun _ _ h => h⟩
  have hbw : Below w0.heap.size w (w.setRow b cs) := ⟨rfl, rfl, rfl, by simp [World.setRow], fun k hk => setRow_other w b k cs (by omega)⟩
  refine ⟨⟨hm.bel.trans hbw, hm.sA, fun b' h => by have := hm.sW b' h; simpa [World.setRow] using this, fun o' ho' => ?_, fun o' ob2 ho' => ?_, fun o1 o2 ob1 ob2 v1 v2 b' h1 h2 h3 h4 h5 h6 => ?_⟩, g⟩
  · by_cases e : o' = o
    · subst e; simp [updL] at ho'
    · simp only [updL, nbeq e, cond_false] at ho'
      exact hm.un o' ho'
  · by_cases e : o' = o
    · subst e
      simp only [updL, Nat.beq_refl, cond_true, Slot.live.injEq] at ho'
      subst ho'
      exact ⟨v, hv, ho, k3⟩
    · simp only [updL, nbeq e, cond_false] at ho'
      obtain ⟨u, j1, j2, j3⟩ := hm.live o' ob2 ho'
      exact ⟨u, j1, j2.mono g fun b' hb' => setRow_other w b b' cs (fun eb => by subst eb; exact e (hm.inj _ _ _ _ _ _ _ ho' hl j1 hv hb' hb)), j3⟩
  · have key : ∀ {x : Nat} {obx : AObj}, updL heap [(o, .live ob')] x = .live obx → ∃ oby, heap x = .live oby := by
      intro x obx hx
      by_cases e : x = o
      · subst e; exact ⟨ob, hl⟩
      · simp only [updL, nbeq e, cond_false] at hx; exact ⟨obx, hx⟩
    obtain ⟨_, g1⟩ := key h1
    obtain ⟨_, g2⟩ := key h2
    exact hm.inj _ _ _ _ _ _ _ g1 g2 h3 h4 h5 h6

/-- an append: the old row o dies, the new row d stands in its block or in a new one -/
theorem mem_append (hm : Mem w0 A S m heap w) {o d : Nat} {ob ob' : AObj} {v v' : Value} (hl : heap o = .live ob) (hd : heap d = .un) (hv : m o = some v)
    (hg : w.grownBy w' (blk v)) (hvb : blk v' = blk v ∨ blk v' = some w.heap.size) (ho : ORep w0.heap.size S (setM m d v') w' ob' v') :
    Mem w0 A S (setM m d v') (updL heap [(d, .live ob'), (o, .dead)]) w' ∧ Grow S m w S (setM m d v') w' := by
  have hmd : m d = none := hm.un d hd
  obtain ⟨u, k1, k2, k3⟩ := hm.live o ob hl
  rw [hv] at k1; cases k1
  have hdo : d ≠ o := fun e => by rw [e, hl] at hd; cases hd
  have g : Grow S m w S (setM m d v') w' := ⟨fun _ h => h, fun b hS => hg.block b (hm.sW b hS) (fun e => k3 b e.symm hS), fun o u hu => by
    have hne : o ≠ d := fun e => by rw [e, hmd] at hu; cases hu
    simpa [setM, hne] using hu⟩
  have hbw : Below w0.heap.size w w' := ⟨hg.os, hg.tape, hg.output, hg.size, fun k hk => hg.block k (by have := hm.hB; omega) (fun e => by have := (k2.lt e.symm).1; omega)⟩
  have hother : ∀ o ob' v', heap o = .live ob' → m o = some v' → ∀ b, blk v' = some b → b < w.heap.size := fun o ob' v' h1 h2 b hb' => by
    obtain ⟨u, k1, k2, _⟩ := hm.live o ob' h1
    rw [h2] at k1; cases k1
    exact (k2.lt hb').2
  have key : ∀ {x : Nat} {obx : AObj}, x ≠ d → updL heap [(d, .live ob'), (o, .dead)] x = .live obx → x ≠ o ∧ heap x = .live obx := by
    intro x obx hxd hx
    by_cases e : x = o
    · subst e; simp [updL, nbeq hxd] at hx
    · simp only [updL, nbeq hxd, nbeq e, cond_false] at hx; exact ⟨e, hx⟩
  refine ⟨⟨hm.bel.trans hbw, hm.sA, fun b h => Nat.lt_of_lt_of_le (hm.sW b h) hg.size, fun x hx => ?_, fun x obx hx => ?_, fun x y ob1 ob2 v1 v2 b h1 h2 h3 h4 h5 h6 => ?_⟩, g⟩
  · by_cases e : x = d
    · subst e; simp [updL] at hx
    · by_cases e2 : x = o
      · subst e2; simp [updL, nbeq e] at hx
      · simp only [updL, nbeq e, nbeq e2, cond_false] at hx
        simp only [setM, if_neg e]
        exact hm.un x hx
  · by_cases e : x = d
    · subst e
      simp only [updL, Nat.beq_refl, cond_true, Slot.live.injEq] at hx
      subst hx
      refine ⟨v', by simp [setM], ho, fun b hb hS => ?_⟩
      rcases hvb with h | h
      · exact k3 b (h ▸ hb) hS
      · rw [h] at hb; cases hb; exact absurd (hm.sW _ hS) (by omega)
    · obtain ⟨hxo, hx⟩ := key e hx
      obtain ⟨u, j1, j2, j3⟩ := hm.live x obx hx
      exact ⟨u, by simpa [setM, e] using j1, j2.mono g fun b hb => hg.block b (j2.lt hb).2 (fun eb => hxo (hm.inj _ _ _ _ _ _ _ hx hl j1 hv hb eb.symm)), j3⟩
  · have sep : ∀ {x : Nat} {obx : AObj} {vx : Value}, x ≠ d → updL heap [(d, .live ob'), (o, .dead)] x = .live obx → setM m d v' x = some vx → blk vx = some b → blk v' = some b → False := by
      intro x obx vx hxd hx hmx hbx hbv
      obtain ⟨hxo, hx⟩ := key hxd hx
      simp only [setM, if_neg hxd] at hmx
      rcases hvb with h | h
      · exact hxo (hm.inj _ _ _ _ _ _ _ hx hl hmx hv hbx (h ▸ hbv))
      · rw [h] at hbv; cases hbv
        have := hother x obx vx hx hmx _ hbx
        omega
    by_cases e : x = d <;> by_cases e' : y = d
    · rw [e, e']
    · subst e
      simp only [setM, if_true, Option.some.injEq] at h3
      subst h3
      exact (sep e' h2 h4 h6 h5).elim
    · subst e'
      simp only [setM, if_true, Option.some.injEq] at h4
      subst h4
      exact (sep e h1 h3 h5 h6).elim
    · obtain ⟨_, g1⟩ := key e h1
      obtain ⟨_, g2⟩ := key e' h2
      simp only [setM, if_neg e] at h3
      simp only [setM, if_neg e'] at h4
      exact hm.inj _ _ _ _ _ _ _ g1 g2 h3 h4 h5 h6
end
end Go.Proofs.Ytgbgpidimipfjaa
