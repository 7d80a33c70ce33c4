/- Regions of the machine over data: the order of the text stands for every order that may be drawn. -/
import Derived.Test.YtgbgpidimipfjaaAbs
namespace Go.Proofs.Ytgbgpidimipfjaa
open Go.RowKit Go.Sort
set_option linter.unusedVariables false

theorem nbeq {a b : Nat} (h : a ≠ b) : Nat.beq a b = false := Bool.eq_false_iff.2 fun e => h (Nat.eq_of_beq_eq_true e)
def allOne (cs : Array Value) : Bool := cs.toList.all fun x => x.oneCell'

def constAV : Value → AV
  | .agg cs => if allOne cs then .agg (cs.toList.map fun x => .p (.v x)) else .any
  | .tuple _ => .any
  | x => .p (.v x)
def St.ev (st : St) : Operand → AV
  | .tmp t => st.tmps t
  | .const v => constAV v
  | .func f => .fn f []
  | .global _ => .any
def St.put (st : St) (d : Option Tmp) (r : AV) : St :=
  match d with
  | none => st
  | some d => { st with tmps := fun t => bif Nat.beq t d then r else st.tmps t }
def updL (h : Nat → Slot) : List (Nat × Slot) → Nat → Slot
  | [], o => h o
  | (n, s) :: l, o => bif Nat.beq o n then s else updL h l o
def St.upd (st : St) (wrs : List (Nat × Slot)) : St := { st with heap := updL st.heap wrs }

def Out (P : Program) (s : Sem Next) (w : World) (K : Value → World → Prop) : Prop :=
  match s.run P w with
  | .ok (.value v) w' => K v w'
  | .ok .skip w' => K undef w'
  | .ok (.enter f args) w' => Calls P f args w' fun e w'' => ∃ v, e = .returned v ∧ K v w''
  | _ => False

def AOp (P : Program) (o : Oper) (xs : List AV) (rds wrs : List (Nat × Slot)) (r : AV) : Prop :=
  ∀ (w0 : World) (A S : Nat → Prop) (m : Nat → Option Value) (heap : Nat → Slot) (w : World) (ev : Operand → Value), Mem w0 A S m heap w →
    RepL S m w xs (o.op.operands.toList.map ev) → (∀ p ∈ rds, heap p.1 = p.2) →
    Out P (execOp ev o) w fun v w' => ∃ S' m', Rep S' m' w' r v ∧ Mem w0 A S' m' (updL heap wrs) w' ∧ Grow S m w S' m' w'

/-- the blocks that are given, and what a walk keeps beside -/
structure Ctx where
  A : Nat → Prop
  J : (Nat → Prop) → (Nat → Option Value) → World → Prop
  up : ∀ (S : Nat → Prop) (m : Nat → Option Value) (w : World) (S' : Nat → Prop) (m' : Nat → Option Value) (w' : World), Grow S m w S' m' w' → J S m w → J S' m' w'
def ctx0 (A : Nat → Prop) : Ctx := ⟨A, fun _ _ _ => True, fun _ _ _ _ _ _ _ _ => trivial⟩

structure Sim (w0 : World) (A : Ctx) (nt : Nat) (st : St) (a : Act) (w : World) : Prop where
  mem : ∃ S m, Mem w0 A.A S m st.heap w ∧ A.J S m w ∧ ∀ t, Rep S m w (st.tmps t) (a.tmps.getD t undef)
  size : a.tmps.size = nt
  defers : a.defers = []

theorem constAV_rep (S : Nat → Prop) (m : Nat → Option Value) (w : World) (v : Value) : Rep S m w (constAV v) v := by
  cases v
  case agg cs =>
    simp only [constAV]
    split
    · rename_i h
      have h' : ∀ x ∈ cs.toList, x.oneCell' = true := by simpa only [allOne, List.all_eq_true] using h
      simp only [Rep]
      refine ⟨cs.toList, by simp, ?_, h'⟩
      clear h
      revert h'
      generalize cs.toList = l
      intro h'
      induction l with
      | nil => simp [RepL]
      | cons x l ih =>
        simp only [List.map_cons, RepL, Rep, PRep]
        exact ⟨x, l, rfl, ⟨rfl, h' x (by simp)⟩, ih fun y hy => h' y (by simp [hy])⟩
    · simp only [Rep]
  all_goals simp only [constAV, Rep, PRep, Value.oneCell', and_self]

theorem ev_rep {S : Nat → Prop} {m : Nat → Option Value} {w : World} {st : St} {a : Act} (h : ∀ t, Rep S m w (st.tmps t) (a.tmps.getD t undef)) : ∀ x : Operand, Rep S m w (st.ev x) (a.eval x)
  | .tmp t => h t
  | .const v => constAV_rep _ _ _ v
  | .func f => by simp [St.ev, Act.eval, Rep, RepL]
  | .global g => by simp [St.ev, Rep]
theorem evs_rep {S : Nat → Prop} {m : Nat → Option Value} {w : World} {st : St} {a : Act} (h : ∀ t, Rep S m w (st.tmps t) (a.tmps.getD t undef)) : ∀ l : List Operand, RepL S m w (l.map st.ev) (l.map a.eval)
  | [] => by simp [RepL]
  | x :: l => by
    simp only [List.map_cons, RepL]
    exact ⟨_, _, rfl, ev_rep h x, evs_rep h l⟩

def awanted (ops : Array Oper) (o : Oper) (st : St) : Option Bool :=
  match o.guard with
  | none => some true
  | some (j, want) => match (ops[j]?).bind (·.dst) with
    | some d => match st.tmps d with
      | .p (.v (.bool c)) => some (c == want)
      | _ => none
    | none => none

abbrev Foot := List Nat × List Nat

inductive OkStep (P : Program) (ops : Array Oper) (o : Oper) (st : St) : Foot → St → Prop
  | run (rds wrs : List (Nat × Slot)) (r : AV) : awanted ops o st = some true → AOp P o (o.op.operands.toList.map st.ev) rds wrs r → (∀ p ∈ rds, st.heap p.1 = p.2) →
      OkStep P ops o st (rds.map Prod.fst, wrs.map Prod.fst) ((st.upd wrs).put o.dst r)
  | skip (f : Foot) (r : AV) : awanted ops o st = some false → (∀ S m w u, Rep S m w r u) → OkStep P ops o st f (st.put o.dst r)

theorem Act.put_defers_eq (a : Act) (d : Option Tmp) (v : Value) : (a.put d v).defers = a.defers := by cases d <;> rfl
theorem Act.put_size (a : Act) (d : Option Tmp) (v : Value) : (a.put d v).tmps.size = a.tmps.size := by cases d <;> simp [Act.put]
theorem put_heap (st : St) (d : Option Tmp) (r : AV) : (st.put d r).heap = st.heap := by cases d <;> rfl

theorem Sim.put {w0 : World} {A : Ctx} {nt : Nat} {st : St} {a : Act} {w w' : World} {S S' : Nat → Prop} {m m' : Nat → Option Value} {wrs : List (Nat × Slot)} {d : Option Tmp} {r : AV} {v : Value}
    (hr : Rep S' m' w' r v) (hm : Mem w0 A.A S' m' (updL st.heap wrs) w') (g : Grow S m w S' m' w') (hj : A.J S m w) (ht : ∀ t, Rep S m w (st.tmps t) (a.tmps.getD t undef)) (hs : a.tmps.size = nt) (hd : a.defers = [])
    (hlt : ∀ t, d = some t → t < nt) : Sim w0 A nt ((st.upd wrs).put d r) (a.put d v) w' := by
  refine ⟨⟨S', m', by rw [put_heap]; exact hm, A.up _ _ _ _ _ _ g hj, fun t => ?_⟩, by rw [Act.put_size]; exact hs, by rw [Act.put_defers_eq]; exact hd⟩
  cases d with
  | none => exact Rep.mono g _ _ (ht t)
  | some d =>
    have hd' := hlt d rfl
    by_cases htd : t = d
    · subst htd
      simp only [St.put, Nat.beq_refl, cond_true, Act.put]
      have hl : t < a.tmps.size := by rw [hs]; exact hd'
      simpa [hl] using hr
    · have hb : Nat.beq t d = false := nbeq htd
      simp only [St.put, hb, cond_false, Act.put, St.upd]
      have := Rep.mono g _ _ (ht t)
      simpa [Array.getElem?_setIfInBounds_ne (Ne.symm htd)] using this

theorem wanted_of {ops : Array Oper} {o : Oper} {st : St} {a : Act} {w : World} {S : Nat → Prop} {m : Nat → Option Value} {b : Bool} (h : awanted ops o st = some b)
    (ht : ∀ t, Rep S m w (st.tmps t) (a.tmps.getD t undef)) : Region.wanted o (yielded ops a.tmps) = b := by
  unfold awanted at h
  unfold Region.wanted
  cases hg : o.guard with
  | none => simp only [hg] at h ⊢; exact (Option.some.inj h)
  | some jw =>
    obtain ⟨j, want⟩ := jw
    simp only [hg] at h ⊢
    unfold yielded
    cases hd : (ops[j]?).bind (·.dst) with
    | none => simp only [hd] at h; cases h
    | some d =>
      simp only [hd] at h
      have := ht d
      split at h
      · rename_i c hc
        rw [hc] at this
        simp only [Rep, PRep] at this
        have h2 : a.tmps[d]? = some (.bool c) := by
          have h3 := this.1
          rw [Array.getD_eq_getD_getElem?] at h3
          cases h4 : a.tmps[d]? with
          | none => rw [h4] at h3; simp [undef] at h3
          | some x => rw [h4] at h3; simp at h3; rw [h3]
        simp only [Option.bind_some, h2]
        have := Option.some.inj h
        rw [← this]
        cases c <;> cases want <;> rfl
      · cases h

theorem OkStep.sound {P : Program} {ops : Array Oper} {o : Oper} {st st1 : St} {f : Foot} (h : OkStep P ops o st f st1) {w0 : World} {A : Ctx} {nt : Nat} {a : Act} {w : World} (hs : Sim w0 A nt st a w)
    (hlt : ∀ t, o.dst = some t → t < nt) {i : Nat} (hi : ops[i]? = some o) {Q : Exit → Act → World → Prop} {K : Act → World → Prop} (hK : ∀ a' w', Sim w0 A nt st1 a' w' → K a' w') : wpOp P ops Q i K a w := by
  obtain ⟨⟨S, m, hm, hj, ht⟩, hsz, hdf⟩ := hs
  unfold wpOp
  simp only [hi]
  cases h with
  | run rds wrs r hw hop hrd =>
    rw [wanted_of hw ht]
    simp only [if_true]
    refine .inl ?_
    have := hop w0 A.A S m st.heap w a.eval hm (evs_rep ht _) hrd
    unfold Out at this
    unfold Oper.wp
    generalize (execOp a.eval o).run P w = res at this
    cases res with
    | halt x w' => exact this.elim
    | ok n w' =>
      cases n <;> simp only [Oper.upon] at this ⊢
      case value v =>
        obtain ⟨S', m', h1, h2, h3⟩ := this
        exact hK _ _ (Sim.put h1 h2 h3 hj ht hsz hdf hlt)
      case skip =>
        obtain ⟨S', m', h1, h2, h3⟩ := this
        exact hK _ _ (Sim.put h1 h2 h3 hj ht hsz hdf hlt)
      case enter f args =>
        refine this.mono fun e w'' he => ?_
        obtain ⟨v, rfl, S', m', h1, h2, h3⟩ := he
        exact hK _ _ (Sim.put h1 h2 h3 hj ht hsz hdf hlt)
      all_goals exact this.elim
  | skip f r hw hrr =>
    rw [wanted_of hw ht]
    simp only [Bool.false_eq_true, if_false]
    exact hK _ _ (Sim.put (wrs := []) (r := r) (hrr _ _ _ _) hm (Grow.refl _ _ _) hj ht hsz hdf hlt)

/-! ### two operations change places -/
def compat (f g : Foot) : Bool := f.2.all (fun n => !g.1.contains n && !g.2.contains n) && g.2.all (fun n => !f.1.contains n)

theorem updL_other {h : Nat → Slot} : ∀ {l : List (Nat × Slot)} {o : Nat}, o ∉ l.map Prod.fst → updL h l o = h o
  | [], _, _ => rfl
  | (n, s) :: l, o, ho => by
    simp only [List.map_cons, List.mem_cons, not_or] at ho
    have hb : Nat.beq o n = false := nbeq ho.1
    simp only [updL, hb, cond_false]
    exact updL_other ho.2
theorem updL_in {h k : Nat → Slot} : ∀ {l : List (Nat × Slot)} {o : Nat}, o ∈ l.map Prod.fst → updL h l o = updL k l o
  | [], _, ho => by simp at ho
  | (n, s) :: l, o, ho => by
    simp only [updL]
    by_cases hn : o = n
    · subst hn; simp
    · have hb : Nat.beq o n = false := nbeq hn
      simp only [List.map_cons, List.mem_cons] at ho
      simp only [hb, cond_false]
      exact updL_in (ho.resolve_left hn)
theorem updL_comm {h : Nat → Slot} {l k : List (Nat × Slot)} (hd : ∀ n ∈ l.map Prod.fst, n ∉ k.map Prod.fst) : updL (updL h l) k = updL (updL h k) l := by
  funext o
  by_cases hk : o ∈ k.map Prod.fst
  · have hl : o ∉ l.map Prod.fst := fun hl => hd o hl hk
    rw [updL_other (l := l) hl]
    exact updL_in hk
  · rw [updL_other (l := k) hk]
    by_cases hl : o ∈ l.map Prod.fst
    · exact updL_in hl
    · rw [updL_other hl, updL_other hl, updL_other hk]
theorem put_comm (st : St) {x y : Option Tmp} (r s : AV) (h : ∀ d, x = some d → y ≠ some d) : (st.put x r).put y s = (st.put y s).put x r := by
  cases x with
  | none => rfl
  | some d =>
    cases y with
    | none => rfl
    | some e =>
      have hne : d ≠ e := fun he => h d rfl (he ▸ rfl)
      simp only [St.put, St.mk.injEq, and_true]
      funext t
      by_cases h1 : t = d
      · subst h1
        have hb : Nat.beq t e = false := nbeq hne
        simp [hb]
      · have hb : Nat.beq t d = false := nbeq h1
        simp [hb]
theorem put_upd (st : St) (d : Option Tmp) (r : AV) (l : List (Nat × Slot)) : (st.put d r).upd l = (st.upd l).put d r := by cases d <;> rfl

theorem ev_same {ops : Array Oper} {o : Oper} {st st1 : St} {d : Option Tmp} (ht : ∀ t, d ≠ some t → st1.tmps t = st.tmps t) (h : ∀ t, d = some t → t ∉ o.looksAt ops) :
    o.op.operands.toList.map st1.ev = o.op.operands.toList.map st.ev := by
  refine List.map_congr_left fun x hx => ?_
  cases x with
  | tmp t =>
    refine ht t fun hd => h t hd ?_
    unfold Oper.looksAt
    exact List.mem_append_left _ (List.mem_filterMap.2 ⟨.tmp t, hx, rfl⟩)
  | _ => rfl
theorem awanted_same {ops : Array Oper} {o : Oper} {st st1 : St} {d : Option Tmp} (ht : ∀ t, d ≠ some t → st1.tmps t = st.tmps t) (h : ∀ t, d = some t → t ∉ o.looksAt ops) :
    awanted ops o st1 = awanted ops o st := by
  unfold awanted
  cases hg : o.guard with
  | none => rfl
  | some jw =>
    obtain ⟨j, want⟩ := jw
    simp only []
    cases hd : (ops[j]?).bind (·.dst) with
    | none => rfl
    | some t =>
      simp only []
      rw [ht t fun hd' => h t hd' (by unfold Oper.looksAt; simp [hg, hd])]
theorem put_tmps (st : St) (d : Option Tmp) (r : AV) (l : List (Nat × Slot)) (t : Nat) (h : d ≠ some t) : ((st.upd l).put d r).tmps t = st.tmps t := by
  cases d with
  | none => rfl
  | some d =>
    have hb : Nat.beq t d = false := nbeq fun e => h (by rw [e])
    simp [St.put, hb, St.upd]
theorem put_tmps' (st : St) (d : Option Tmp) (r : AV) (t : Nat) (h : d ≠ some t) : (st.put d r).tmps t = st.tmps t := by
  cases d with
  | none => rfl
  | some d =>
    have hb : Nat.beq t d = false := nbeq fun e => h (by rw [e])
    simp [St.put, hb]

theorem OkStep.swap {P : Program} {ops : Array Oper} {oi oj : Oper} {st st1 st2 : St} {fi fj : Foot} (hi : OkStep P ops oi st fi st1) (hj : OkStep P ops oj st1 fj st2)
    (hap : oi.apart ops oj = true) (hc : compat fi fj = true) : ∃ st1', OkStep P ops oj st fj st1' ∧ OkStep P ops oi st1' fi st2 := by
  obtain ⟨h1, h2, h3⟩ := Oper.apart_spec hap
  simp only [compat, Bool.and_eq_true, List.all_eq_true, Bool.not_eq_true', List.contains_eq_mem, decide_eq_false_iff_not] at hc
  obtain ⟨c1, c2⟩ := hc
  cases hi with
  | run rds wrs r hw hop hrd =>
    cases hj with
    | run rds' wrs' r' hw' hop' hrd' =>
      rw [ev_same (fun t ht => put_tmps st oi.dst r wrs t ht) h1] at hop'
      rw [awanted_same (fun t ht => put_tmps st oi.dst r wrs t ht) h1] at hw'
      refine ⟨_, .run rds' wrs' r' hw' hop' fun p hp => ?_, ?_⟩
      · have := hrd' p hp
        rw [put_heap] at this
        rw [← this]
        exact (updL_other fun hn => (c1 _ hn).1 (List.mem_map.2 ⟨p, hp, rfl⟩)).symm
      · have e : (((st.upd wrs).put oi.dst r).upd wrs').put oj.dst r' = (((st.upd wrs').put oj.dst r').upd wrs).put oi.dst r := by
          rw [put_upd, put_upd, put_comm _ r r' h2]
          congr 2
          simp only [St.upd, St.mk.injEq, true_and]
          exact updL_comm fun n hn => (c1 n hn).2
        rw [e]
        refine .run rds wrs r ?_ ?_ fun p hp => ?_
        · rw [awanted_same (fun t ht => put_tmps st oj.dst r' wrs' t ht) h3]; exact hw
        · rw [ev_same (fun t ht => put_tmps st oj.dst r' wrs' t ht) h3]; exact hop
        · rw [put_heap, ← hrd p hp]
          exact updL_other fun hn => c2 _ hn (List.mem_map.2 ⟨p, hp, rfl⟩)
    | skip fj r' hw' hrr =>
      rw [awanted_same (fun t ht => put_tmps st oi.dst r wrs t ht) h1] at hw'
      refine ⟨_, .skip _ r' hw' hrr, ?_⟩
      rw [put_comm _ r r' h2, ← put_upd]
      refine .run rds wrs r ?_ ?_ fun p hp => by rw [put_heap]; exact hrd p hp
      · rw [awanted_same (fun t ht => put_tmps' st oj.dst r' t ht) h3]; exact hw
      · rw [ev_same (fun t ht => put_tmps' st oj.dst r' t ht) h3]; exact hop
  | skip fi r hw hrr =>
    cases hj with
    | run rds' wrs' r' hw' hop' hrd' =>
      rw [ev_same (fun t ht => put_tmps' st oi.dst r t ht) h1] at hop'
      rw [awanted_same (fun t ht => put_tmps' st oi.dst r t ht) h1] at hw'
      refine ⟨_, .run rds' wrs' r' hw' hop' fun p hp => by rw [← hrd' p hp, put_heap], ?_⟩
      rw [put_upd, put_comm _ r r' h2]
      refine .skip _ r ?_ hrr
      rw [awanted_same (fun t ht => put_tmps st oj.dst r' wrs' t ht) h3]; exact hw
    | skip fj r' hw' hrr' =>
      rw [awanted_same (fun t ht => put_tmps' st oi.dst r t ht) h1] at hw'
      refine ⟨_, .skip _ r' hw' hrr', ?_⟩
      rw [put_comm _ r r' h2]
      refine .skip _ r ?_ hrr
      rw [awanted_same (fun t ht => put_tmps' st oj.dst r' t ht) h3]; exact hw

/-! ### runs -/
def Runs (P : Program) (ops : Array Oper) (F : Nat → Foot) : List Nat → St → St → Prop
  | [], st, st' => st = st'
  | i :: l, st, st' => ∃ o st1, ops[i]? = some o ∧ OkStep P ops o st (F i) st1 ∧ Runs P ops F l st1 st'

def pairOK (ops : Array Oper) (F : Nat → Foot) (i j : Nat) : Prop := ∀ oi oj, ops[i]? = some oi → ops[j]? = some oj → oi.apart ops oj = true ∧ compat (F i) (F j) = true

theorem Runs.front {P : Program} {ops : Array Oper} {F : Nat → Foot} : ∀ {l1 l2 : List Nat} {j : Nat} {st st' : St}, Runs P ops F (l1 ++ j :: l2) st st' → (∀ i ∈ l1, pairOK ops F i j) →
    ∃ o st1, ops[j]? = some o ∧ OkStep P ops o st (F j) st1 ∧ Runs P ops F (l1 ++ l2) st1 st'
  | [], l2, j, st, st', h, _ => h
  | i :: l1, l2, j, st, st', h, hp => by
    obtain ⟨oi, st1, hoi, hsi, h⟩ := h
    obtain ⟨oj, st2, hoj, hsj, h⟩ := Runs.front h fun k hk => hp k (by simp [hk])
    obtain ⟨hap, hc⟩ := hp i (by simp) oi oj hoi hoj
    obtain ⟨st1', h1, h2⟩ := hsi.swap hsj hap hc
    exact ⟨oj, st1', hoj, h1, oi, st2, hoi, h2, h⟩

def ancB (ops : Array Oper) : Nat → Nat → Nat → Bool
  | 0, _, _ => false
  | n + 1, r, j => match ops[j]? with
    | some o => o.after.any fun e => Region.binds .any e && (e.on == r || ancB ops n r e.on)
    | none => false

def Closed (ops : Array Oper) (listed : Array Bool) : Prop := ∀ j o, ops[j]? = some o → listed.getD j false = true → ∀ e ∈ o.after, Region.binds .any e = true → listed.getD e.on false = true

theorem anc_listed {ops : Array Oper} {listed : Array Bool} (hc : Closed ops listed) : ∀ (n r j : Nat), ancB ops n r j = true →
    (∀ o, ops[j]? = some o → ∀ e ∈ o.after, Region.binds .any e = true → listed.getD e.on false = true) → listed.getD r false = true
  | 0, r, j, h, _ => by simp [ancB] at h
  | n + 1, r, j, h, hj => by
    unfold ancB at h
    cases ho : ops[j]? with
    | none => simp [ho] at h
    | some o =>
      simp only [ho] at h
      obtain ⟨e, he, h⟩ := Array.any_eq_true'.1 h
      simp only [Bool.and_eq_true, Bool.or_eq_true, beq_iff_eq] at h
      obtain ⟨hb, h⟩ := h
      have hl := hj o ho e he hb
      rcases h with h | h
      · rw [← h]; exact hl
      · exact anc_listed hc n r e.on h fun o' ho' e' he' hb' => hc e.on o' ho' hl e' he' hb'

/-- the pairs that are not ordered do not touch -/
def regionOK (nt fuel : Nat) (ops : Array Oper) (F : List Foot) : Bool :=
  (List.range ops.size).all fun j => match ops[j]? with
    | some oj => (match oj.dst with | some d => decide (d < nt) | none => true) && oj.after.all (fun e => !Region.binds .any e || decide (e.on < j)) &&
      (List.range j).all fun i => match ops[i]? with
        | some oi => (oi.apart ops oj && compat (F.getD i ([], [])) (F.getD j ([], []))) || ancB ops fuel i j
        | none => true
    | none => true

theorem regionOK_spec {nt fuel : Nat} {ops : Array Oper} {F : List Foot} (h : regionOK nt fuel ops F = true) {j : Nat} {oj : Oper} (hj : ops[j]? = some oj) :
    (∀ d, oj.dst = some d → d < nt) ∧ (∀ e ∈ oj.after, Region.binds .any e = true → e.on < j) ∧
    ∀ i, i < j → ancB ops fuel i j = true ∨ pairOK ops (fun k => F.getD k ([], [])) i j := by
  simp only [regionOK, List.all_eq_true, List.mem_range] at h
  have hlt := (Array.getElem?_eq_some_iff.1 hj).1
  have h1 := h j hlt
  simp only [hj, Bool.and_eq_true] at h1
  obtain ⟨⟨h2, h3⟩, h4⟩ := h1
  refine ⟨fun d hd => by simpa [hd] using h2, fun e he hb => ?_, fun i hi => ?_⟩
  · have := Array.all_eq_true_iff_forall_mem.1 h3 e he
    simpa [hb] using this
  · simp only [List.all_eq_true, List.mem_range] at h4
    have h5 := h4 i hi
    cases ho : ops[i]? with
    | none => rw [Array.getElem?_eq_none_iff] at ho; omega
    | some oi =>
      simp only [ho, Bool.or_eq_true, Bool.and_eq_true] at h5
      rcases h5 with h5 | h5
      · refine .inr fun oi' oj' hi' hj' => ?_
        rw [ho] at hi'; rw [hj] at hj'
        cases hi'; cases hj'
        exact h5
      · exact .inl h5

def unlisted (n : Nat) (listed : Array Bool) : List Nat := (List.range n).filter fun i => !listed.getD i true

theorem listed_iff {listed : Array Bool} {n i : Nat} (hsz : listed.size = n) (hi : i < n) : listed.getD i true = listed.getD i false := by simp [hsz ▸ hi]

theorem unlisted_set {n : Nat} {listed : Array Bool} (hsz : listed.size = n) {j : Nat} {l1 l2 : List Nat} (h : unlisted n listed = l1 ++ j :: l2) : unlisted n (listed.setIfInBounds j true) = l1 ++ l2 := by
  have hnd : (unlisted n listed).Nodup := List.Nodup.sublist List.filter_sublist List.nodup_range
  have e : unlisted n (listed.setIfInBounds j true) = (unlisted n listed).filter (fun i => i ≠ j) := by
    unfold unlisted
    rw [List.filter_filter]
    refine List.filter_congr fun i hi => ?_
    have hi' : i < n := by simpa using hi
    by_cases hij : i = j
    · subst hij; simp [hsz, hi']
    · rw [getD_set_ne true (Ne.symm hij)]; simp [hij]
  rw [e, h]
  rw [h] at hnd
  have hn := List.nodup_append.1 hnd
  obtain ⟨n1, n2, n3⟩ := hn
  rw [List.filter_append, List.filter_cons]
  simp only [ne_eq, not_true_eq_false, decide_false, Bool.false_eq_true, if_false]
  congr 1
  · refine List.filter_eq_self.2 fun i hi => ?_
    have := n3 i hi j (by simp)
    simpa using this
  · refine List.filter_eq_self.2 fun i hi => ?_
    have := (List.nodup_cons.1 n2).1
    simp only [decide_eq_true_eq]
    intro e; subst e; exact this hi

theorem wpAny_of_runs {P : Program} {ops : Array Oper} {nt fuel : Nat} {F : List Foot} (hok : regionOK nt fuel ops F = true) {w0 : World} {A : Ctx} {Q : Exit → Act → World → Prop} {st' : St}
    (hQ : ∀ a w, Sim w0 A nt st' a w → Q .normal a w) : ∀ (n : Nat) (listed : Array Bool) (st : St) (a : Act) (w : World), listed.size = ops.size → Closed ops listed →
      (unlisted ops.size listed).length = n → Runs P ops (fun k => F.getD k ([], [])) (unlisted ops.size listed) st st' → Sim w0 A nt st a w → wpAny P .any ops Q n listed a w
  | 0, listed, st, a, w, hsz, hcl, hn, hr, hs => by
    have h0 : unlisted ops.size listed = [] := List.eq_nil_of_length_eq_zero hn
    rw [h0] at hr
    simp only [Runs] at hr
    subst hr
    refine ⟨?_, hQ a w hs⟩
    cases hrd : Region.ready .any ops listed with
    | nil => rfl
    | cons j t =>
      exfalso
      have hj : j ∈ Region.ready .any ops listed := by rw [hrd]; simp
      obtain ⟨hu, o, ho, _⟩ := mem_ready.1 hj
      have : j ∈ unlisted ops.size listed := by
        unfold unlisted
        simp [(Array.getElem?_eq_some_iff.1 ho).1]
        simpa using hu
      rw [h0] at this
      cases this
  | n + 1, listed, st, a, w, hsz, hcl, hn, hr, hs => by
    refine ⟨fun h0 => ?_, fun j hj => ?_⟩
    · exfalso
      cases hu : unlisted ops.size listed with
      | nil => rw [hu] at hn; simp at hn
      | cons i l =>
        have him : i ∈ unlisted ops.size listed := by rw [hu]; simp
        have hi2 : i < ops.size ∧ listed.getD i true = false := by
          have := him
          unfold unlisted at this
          rw [List.mem_filter] at this
          exact ⟨by simpa using this.1, by simpa using this.2⟩
        have ho : ops[i]? = some ops[i] := Array.getElem?_eq_getElem hi2.1
        have hsp := regionOK_spec hok ho
        have : i ∈ Region.ready .any ops listed := by
          rw [mem_ready]
          refine ⟨hi2.2, _, ho, fun e he hb => ?_⟩
          have hlt := hsp.2.1 e he hb
          have hle : e.on < ops.size := by omega
          cases hL : listed.getD e.on true with
          | true => rw [← listed_iff hsz hle]; exact hL
          | false =>
            exfalso
            have hem : e.on ∈ unlisted ops.size listed := by
              unfold unlisted
              rw [List.mem_filter]
              exact ⟨by simpa using hle, by rw [hL]; rfl⟩
            rw [hu] at hem
            rcases List.mem_cons.1 hem with h | h
            · omega
            · have hp : (unlisted ops.size listed).Pairwise (· < ·) := List.Pairwise.filter _ List.pairwise_lt_range
              rw [hu] at hp
              have := (List.pairwise_cons.1 hp).1 _ h
              omega
        rw [h0] at this
        cases this
    · obtain ⟨hu, o, ho, hall⟩ := mem_ready.1 hj
      have hlt := (Array.getElem?_eq_some_iff.1 ho).1
      have hjm : j ∈ unlisted ops.size listed := by
        unfold unlisted
        rw [List.mem_filter]
        exact ⟨by simpa using hlt, by rw [hu]; rfl⟩
      obtain ⟨l1, l2, hl⟩ := List.append_of_mem hjm
      have hsp := regionOK_spec hok ho
      have hp : (unlisted ops.size listed).Pairwise (· < ·) := List.Pairwise.filter _ List.pairwise_lt_range
      have hr2 := hr
      rw [hl] at hr2 hp
      obtain ⟨o', st1, ho', hst, hrest⟩ := hr2.front fun i hi => by
        have hij : i < j := (List.pairwise_append.1 hp).2.2 i hi j (by simp)
        rcases hsp.2.2 i hij with h | h
        · exfalso
          have hli := anc_listed hcl fuel i j h fun o2 ho2 e he hb => by
            rw [ho] at ho2; cases ho2; exact hall e he hb
          have him : i ∈ unlisted ops.size listed := by rw [hl]; simp [hi]
          unfold unlisted at him
          rw [List.mem_filter] at him
          have hi3 : i < ops.size := by omega
          rw [listed_iff hsz hi3, hli] at him
          simp at him
        · exact h
      rw [ho] at ho'
      cases ho'
      refine hst.sound hs hsp.1 ho fun a' w' hs' => ?_
      refine wpAny_of_runs hok hQ n _ st1 a' w' (by simpa using hsz) ?_ ?_ ?_ hs'
      · intro k ok hk hkl e he hb
        by_cases hkj : k = j
        · subst hkj
          rw [ho] at hk; cases hk
          exact getD_set_true (hall e he hb)
        · rw [getD_set_ne false (Ne.symm hkj)] at hkl
          exact getD_set_true (hcl k ok hk hkl e he hb)
      · rw [unlisted_set hsz hl]
        rw [hl] at hn
        simp at hn ⊢
        omega
      · rw [unlisted_set hsz hl]; exact hrest
end Go.Proofs.Ytgbgpidimipfjaa
