/- The machine over data: what is read of an object; contracts of functions; calls. -/
import Derived.Test.YtgbgpidimipfjaaAbw
import Derived.Maps.AppendAt
namespace Go.Proofs.Ytgbgpidimipfjaa
open Go.RowKit Go.Sort
set_option linter.unusedVariables false

def AV.isP : AV → Bool
  | .p _ => true
  | _ => false
def AV.toP : AV → PV
  | .p x => x
  | _ => .sl 0 0 []
theorem map_toP : ∀ {cs : List AV}, cs.all AV.isP = true → (cs.map AV.toP).map AV.p = cs
  | [], _ => rfl
  | c :: cs, h => by
    simp only [List.all_cons, Bool.and_eq_true] at h
    have h2 := map_toP h.2
    have h1 := h.1
    cases c <;> simp only [AV.isP, Bool.false_eq_true] at h1
    simp only [List.map_cons, AV.toP, h2]

def sliceView (h : Slot) (off n size : Nat) : AV :=
  match h with
  | .live (.row _ _ _ cs) => if off + n * size ≤ cs.length then .p (.sl n size ((cs.drop off).take (n * size))) else .any
  | .live (.box _ cs) => if off + n * size ≤ cs.length ∧ cs.all AV.isP = true then .p (.sl n size (((cs.map AV.toP).drop off).take (n * size))) else .any
  | _ => .any
def rowView (h : Slot) : AV :=
  match h with
  | .live (.row _ size n cs) => .p (.sl n size cs)
  | _ => .any
mutual
def AV.view (keep : Nat → Bool) (h : Nat → Slot) : AV → AV
  | .p x => .p x
  | .agg cs => .agg (AV.viewL keep h cs)
  | .tup cs => .tup (AV.viewL keep h cs)
  | .ptr cs => .ptr cs
  | .ref o off => .any
  | .row o => bif keep o then .row o else rowView (h o)
  | .psl o off n size => bif keep o then .any else sliceView (h o) off n size
  | .fn f cs => .fn f (AV.viewL keep h cs)
  | .mb b x => .any
  | .ifc => .ifc
  | .mp o => bif keep o then .mp o else .any
  | .any => .any
def AV.viewL (keep : Nat → Bool) (h : Nat → Slot) : List AV → List AV
  | [] => []
  | c :: cs => c.view keep h :: AV.viewL keep h cs
end

theorem own_range {w : World} {B : Nat} {e : TypeId} {size n : Nat} {v : Value} {us : List Value} (h : RowAt w B e size v n us) {b : Nat} (hb : blk v = some b) : w.rangeAt b 0 us := by
  rcases h.2 with ⟨rfl, _⟩ | ⟨g, cap, cur, fz, rfl, _, hh, _, _, _, _, rfl⟩
  · simp [blk] at hb
  · obtain rfl : g = b := by simpa [blk] using hb
    intro j x hj
    rw [Nat.zero_add, cell_of_row w g j cur e fz hh]
    rw [List.getElem?_take] at hj
    split at hj
    · simpa using hj
    · cases hj
theorem box_range {w : World} {b : Nat} {us : List Value} {ty : TypeId} (h : w.heap[b]? = some (.cells us.toArray ty (0, 0))) : w.rangeAt b 0 us := by
  intro j x hj
  rw [Nat.zero_add, cell_of_row w b j us.toArray ty (0, 0) h]
  simpa using hj
theorem range_sub {w : World} {b off k : Nat} {us : List Value} (h : w.rangeAt b 0 us) : w.rangeAt b off ((us.drop off).take k) := by
  intro j x hj
  rw [List.getElem?_take] at hj
  split at hj
  · rw [List.getElem?_drop] at hj
    have := h (off + j) x hj
    rwa [Nat.zero_add] at this
  · cases hj

section
variable {B : Nat} {S T : Nat → Prop} {m m' : Nat → Option Value} {w : World} {h : Nat → Slot} {keep : Nat → Bool}
theorem sliceView_rep (hO : ∀ o ob, h o = .live ob → ∃ v, m o = some v ∧ ORep B S m w ob v) (hS : ∀ b, S b → T b) {o : Nat} (hT : ∀ ob v b, h o = .live ob → m o = some v → blk v = some b → T b) {off n size : Nat} {u : Value} (hr : Rep S m w (.psl o off n size) u) : Rep T m' w (sliceView (h o) off n size) u := by
  simp only [Rep] at hr
  obtain ⟨a, cap, rfl, h2, h3⟩ := hr
  have key : ∀ (cs : List PV) (us : List Value) (ob : AObj) (v : Value), h o = .live ob → m o = some v → PRepL S w cs us → (∀ b, blk v = some b → w.rangeAt b 0 us) → off + n * size ≤ cs.length →
      Rep T m' w (.p (.sl n size ((cs.drop off).take (n * size)))) (.slice a n cap) := by
    intro cs us ob v hob hv hp hrange hlen
    simp only [Rep, PRep]
    refine ⟨a, cap, (us.drop off).take (n * size), rfl, h2, by rw [List.length_take, List.length_drop]; omega, ?_, ?_⟩
    · exact PRepL.mono hS (fun _ _ => rfl) _ _ ((hp.drop off).take _)
    · rcases h3 with h3 | ⟨b, v0, h4, h5, h6⟩
      · exact .inl h3
      · rw [hv] at h4
        obtain rfl := Option.some.inj h4
        exact .inr ⟨b, off, h6, hT ob v b hob hv h5, range_sub (hrange b h5)⟩
  unfold sliceView
  cases hs : h o with
  | un => simp only [Rep]
  | dead => simp only [Rep]
  | live ob =>
    obtain ⟨v, h4, h5⟩ := hO o ob hs
    cases ob with
    | row e sz n' cs =>
      simp only []
      split
      · rename_i hlen
        obtain ⟨us, h6, h7⟩ := h5
        exact key cs us _ v hs h4 h6 (fun b hb => own_range h7 hb) hlen
      · simp only [Rep]
    | box ty cs =>
      simp only []
      split
      · rename_i hlen
        obtain ⟨b, us, rfl, h6, h7, h8, h9⟩ := h5
        rw [← map_toP hlen.2] at h7
        exact key _ us _ _ hs h4 (repL_prepL h7) (fun b' hb' => by obtain rfl : b = b' := by simpa [blk] using hb'
                                                                   exact box_range h9) (by rw [List.length_map]; exact hlen.1)
      · simp only [Rep]
    | map es => simp only [Rep]
theorem rowView_rep (hO : ∀ o ob, h o = .live ob → ∃ v, m o = some v ∧ ORep B S m w ob v) (hS : ∀ b, S b → T b)
    {o : Nat} (hT : ∀ ob v b, h o = .live ob → m o = some v → blk v = some b → T b) {u : Value} (hr : Rep S m w (.row o) u) : Rep T m' w (rowView (h o)) u := by
  simp only [Rep] at hr
  replace hr := hr.1
  unfold rowView
  cases hs : h o with
  | un => simp only [Rep]
  | dead => simp only [Rep]
  | live ob =>
    obtain ⟨v, h4, h5⟩ := hO o ob hs
    rw [hr] at h4
    obtain rfl := Option.some.inj h4
    cases ob with
    | row e sz n' cs =>
      simp only [Rep, PRep]
      obtain ⟨us, h6, h7⟩ := h5
      have hl := h6.length
      have hr2 := fun b hb => own_range h7 (b := b) hb
      rcases h7.2 with ⟨rfl, rfl⟩ | ⟨g, cap, cur, fz, rfl, _, hh, _, h8, h9, _, h10⟩
      · exact ⟨none, 0, us, rfl, Nat.le_refl _, by rw [← hl, h7.1], PRepL.mono hS (fun _ _ => rfl) _ _ h6, .inl rfl⟩
      · exact ⟨some ⟨g, 0, none⟩, cap, us, rfl, h8, by rw [← hl, h7.1], PRepL.mono hS (fun _ _ => rfl) _ _ h6, .inr ⟨g, 0, rfl, hT _ _ g hs hr rfl, hr2 g rfl⟩⟩
    | box ty cs => simp only [Rep]
    | map es => simp only [Rep]
end

section
variable {B : Nat} {S T : Nat → Prop} {m m' : Nat → Option Value} {w : World} {h : Nat → Slot} {keep : Nat → Bool}
mutual
theorem view_rep (hO : ∀ o ob, h o = .live ob → ∃ v, m o = some v ∧ ORep B S m w ob v) (hS : ∀ b, S b → T b)
    (hP : ∀ o off n size u, keep o = false → Rep S m w (.psl o off n size) u → Rep T m' w (sliceView (h o) off n size) u) (hR : ∀ o u, keep o = false → Rep S m w (.row o) u → Rep T m' w (rowView (h o)) u)
    (hM : ∀ o v, keep o = true → m o = some v → m' o = some v) : ∀ (x : AV) (u : Value), Rep S m w x u → Rep T m' w (x.view keep h) u
  | .p x, u, hr => by
    simp only [AV.view, Rep] at hr ⊢
    exact PRep.mono hS (fun _ _ => rfl) _ _ hr
  | .agg cs, u, hr => by
    simp only [AV.view, Rep] at hr ⊢
    obtain ⟨us, h1, h2, h3⟩ := hr
    exact ⟨us, h1, viewL_rep hO hS hP hR hM cs us h2, h3⟩
  | .tup cs, u, hr => by
    simp only [AV.view, Rep] at hr ⊢
    obtain ⟨us, h1, h2⟩ := hr
    exact ⟨us, h1, viewL_rep hO hS hP hR hM cs us h2⟩
  | .ptr cs, u, hr => by
    simp only [AV.view, Rep] at hr ⊢
    obtain ⟨b, off, vs, h1, h2, h3, h4⟩ := hr
    exact ⟨b, off, vs, h1, hS b h2, PRepL.mono hS (fun _ _ => rfl) _ _ h3, h4⟩
  | .ref o off, u, hr => by simp only [AV.view, Rep]
  | .row o, u, hr => by
    simp only [AV.view]
    cases hk : keep o with
    | true =>
      simp only [cond_true, Rep] at hr ⊢
      exact ⟨hM o u hk hr.1, hr.2⟩
    | false => exact hR o u hk hr
  | .psl o off n size, u, hr => by
    simp only [AV.view]
    cases hk : keep o with
    | true => simp only [cond_true, Rep]
    | false => exact hP o off n size u hk hr
  | .fn f cs, u, hr => by
    simp only [AV.view, Rep] at hr ⊢
    obtain ⟨us, h1, h2⟩ := hr
    exact ⟨us, h1, viewL_rep hO hS hP hR hM cs us h2⟩
  | .mb b x, u, hr => by simp only [AV.view, Rep]
  | .ifc, u, hr => by simpa only [AV.view, Rep] using hr
  | .mp o, u, hr => by
    simp only [AV.view]
    cases hk : keep o with
    | true =>
      simp only [cond_true, Rep] at hr ⊢
      exact ⟨hM o u hk hr.1, hr.2⟩
    | false => simp only [cond_false, Rep]
  | .any, u, hr => by simp only [AV.view, Rep]
theorem viewL_rep (hO : ∀ o ob, h o = .live ob → ∃ v, m o = some v ∧ ORep B S m w ob v) (hS : ∀ b, S b → T b)
    (hP : ∀ o off n size u, keep o = false → Rep S m w (.psl o off n size) u → Rep T m' w (sliceView (h o) off n size) u) (hR : ∀ o u, keep o = false → Rep S m w (.row o) u → Rep T m' w (rowView (h o)) u)
    (hM : ∀ o v, keep o = true → m o = some v → m' o = some v) : ∀ (x : List AV) (u : List Value), RepL S m w x u → RepL T m' w (AV.viewL keep h x) u
  | [], u, hr => by simpa only [AV.viewL, RepL] using hr
  | c :: cs, u, hr => by
    simp only [AV.viewL, RepL] at hr ⊢
    obtain ⟨u, us, h1, h2, h3⟩ := hr
    exact ⟨u, us, h1, view_rep hO hS hP hR hM c u h2, viewL_rep hO hS hP hR hM cs us h3⟩
end
end

/-! ### contracts -/
def ResOK (w : World) (A : Nat → Prop) (w' : World) (res : AV) (news : List (Nat × AObj)) (v : Value) : Prop :=
  ∃ S' m', Rep S' m' w' res v ∧ Mem w A S' m' (lookO news) w'

/-- f, called with these data, answers 'res' (with the rows 'news', that are the caller's from then on), and turns nothing that was there. -/
def Fn (P : Program) (f : FuncId) (args : List AV) (res : AV) (news : List (Nat × AObj)) : Prop :=
  ∀ (w : World) (A : Nat → Prop) (us : List Value), (∀ b, A b → b < w.heap.size) → RepL A (fun _ => none) w args us →
    Calls P f us.toArray w fun e w' => ∃ v, e = .returned v ∧ ResOK w A w' res news v

def initT : Nat → List AV → List (Nat × AV)
  | _, [] => []
  | k, x :: l => (k, x) :: initT (k + 1) l
/-- the results of a body: slots, or variables that lie in memory -/
inductive ResIs (P : Program) (st : St) : List ResultVar → List AV → Prop
  | nil : ResIs P st [] []
  | tmp (t : Tmp) (l : List ResultVar) (x : AV) (xs : List AV) : st.tmps t = x → ResIs P st l xs → ResIs P st (.tmp t :: l) (x :: xs)
  | cellN (a : Tmp) (t : TypeId) (l : List ResultVar) (o : Nat) (bt : TypeId) (cs : List AV) (ds : TypeDesc) (xs : List AV) (k : Nat) : st.tmps a = .ref o 0 → st.heap o = .live (.box bt cs) → P.underlying t = some ds → ds.isRow = true → (P.info? t).map (·.size) = some k → cs.length = k →
      ResIs P st l xs → ResIs P st (.cell a t :: l) (.agg cs :: xs)
  | cell1 (a : Tmp) (t : TypeId) (l : List ResultVar) (o : Nat) (bt : TypeId) (c : AV) (ds : TypeDesc) (xs : List AV) : st.tmps a = .ref o 0 → st.heap o = .live (.box bt [c]) → P.underlying t = some ds → ds.isRow = false → ResIs P st l xs → ResIs P st (.cell a t :: l) (c :: xs)
def oneV : List Value → Value
  | [x] => x
  | xs => .tuple xs.toArray
def oneA : List AV → AV
  | [x] => x
  | xs => .tup xs
def keepOf (ρ : Nat → Nat) (news : List (Nat × AObj)) (o : Nat) : Bool := (news.map fun p => ρ p.1).elem o

/-- the end of a body -/
structure Fin (P : Program) (rs : List ResultVar) (res : AV) (news : List (Nat × AObj)) (e : Exit) (st : St) : Prop where
  ends : e = .normal ∨ e = .ret
  ex : ∃ (vals : List AV) (ρ : Nat → Nat), ResIs P st rs vals ∧ (oneA vals).view (keepOf ρ news) st.heap = res.ren ρ ∧ res.okIn (news.map Prod.fst) = true ∧ LeO ρ st (news.map Prod.fst) news ∧ nodupB (news.map fun p => ρ p.1) = true

def resF (tmps : Array Value) : ResultVar → Sem Value
  | .tmp t => pure (tmps.getD t undef)
  | .cell a t => do loadVar t (← asAddr (tmps.getD a undef))
theorem isAgg_run {P : Program} {t : TypeId} {ds : TypeDesc} (hu : P.underlying t = some ds) (w : World) : (isAgg t).run P w = .ok ds.isRow w := by
  unfold isAgg
  rw [Sem.run_bind, run_underlying hu w]
  cases ds <;> rfl

theorem resIs_run {P : Program} {w0 : World} {A S : Nat → Prop} {m : Nat → Option Value} {st : St} {w : World} {tmps : Array Value} (hm : Mem w0 A S m st.heap w) (ht : ∀ t, Rep S m w (st.tmps t) (tmps.getD t undef)) :
    ∀ {rs : List ResultVar} {vals : List AV}, ResIs P st rs vals → ∃ us, (rs.mapM (resF tmps)).run P w = .ok us w ∧ RepL S m w vals us
  | [], _, .nil => ⟨[], rfl, by simp [RepL]⟩
  | _, _, .tmp t l x xs h1 h2 => by
    obtain ⟨us, h3, h4⟩ := resIs_run hm ht h2
    refine ⟨tmps.getD t undef :: us, ?_, by simp only [RepL]; exact ⟨_, _, rfl, h1 ▸ ht t, h4⟩⟩
    simp only [List.mapM_cons, resF, Sem.run_bind, Sem.run_pure, Result.andThen_ok, h3]
  | _, _, .cellN a t l o bt cs ds xs k h1 h2 h3 h4 h5 hk h6 => by
    obtain ⟨us, h7, h8⟩ := resIs_run hm ht h6
    have ha := ht a
    rw [h1] at ha
    simp only [Rep] at ha
    obtain ⟨b, v0, k1, k2, k3⟩ := ha
    obtain ⟨v, j1, j2, _⟩ := hm.live o _ h2
    rw [k1] at j1; cases j1
    obtain ⟨b', vs, rfl, _, i1, i2, i3⟩ := j2
    obtain rfl : b' = b := by simpa [blk] using k2
    have hl := i1.length
    have hrun := run_loadVar_mid (P := P) w b' 0 t vs ds (box_range i3) h3 h4 (by rw [h5, hl, hk])
    refine ⟨.agg vs.toArray :: us, ?_, by simp only [RepL, Rep]; exact ⟨_, _, rfl, ⟨vs, rfl, i1, i2⟩, h8⟩⟩
    simp only [List.mapM_cons, resF, Sem.run_bind, k3, asAddr, Sem.run_pure, Result.andThen_ok, hrun, h7]
  | _, _, .cell1 a t l o bt c ds xs h1 h2 h3 h4 h6 => by
    obtain ⟨us, h7, h8⟩ := resIs_run hm ht h6
    have ha := ht a
    rw [h1] at ha
    simp only [Rep] at ha
    obtain ⟨b, v0, k1, k2, k3⟩ := ha
    obtain ⟨v, j1, j2, _⟩ := hm.live o _ h2
    rw [k1] at j1; cases j1
    obtain ⟨b', vs, rfl, _, i1, i2, i3⟩ := j2
    obtain rfl : b' = b := by simpa [blk] using k2
    simp only [RepL] at i1
    obtain ⟨u, us', rfl, i4, rfl⟩ := i1
    have hc : w.cell? ⟨b', 0, none⟩ = some u := by
      have := box_range i3 0 u (by simp)
      simpa using this
    have hrun : (loadVar t ⟨b', 0, none⟩).run P w = .ok u w := by
      simp only [loadVar, Sem.run_bind, isAgg_run h3, h4, Result.andThen_ok, Bool.false_eq_true, if_false, run_load, hc, Sem.run_ite]
    refine ⟨u :: us, ?_, by simp only [RepL]; exact ⟨_, _, rfl, i4, h8⟩⟩
    simp only [List.mapM_cons, resF, Sem.run_bind, k3, asAddr, Sem.run_pure, Result.andThen_ok, hrun, h7]

theorem results_run {P : Program} {fn : Func} {tmps : Array Value} {w : World} {us : List Value} (h : (fn.results.toList.mapM (resF tmps)).run P w = .ok us w) :
    (results fn tmps).run P w = .ok (oneV us) w := by
  have e : (fun (r : ResultVar) => (match r with | .tmp t => pure (tmps.getD t undef) | .cell a t => do loadVar t (← asAddr (tmps.getD a undef)) : Sem Value)) = resF tmps := by
    funext r
    cases r <;> rfl
  have h2 : (fn.results.mapM (resF tmps)).run P w = .ok us.toArray w := by
    rw [Array.mapM_eq_mapM_toList, Sem.run_map, h]
    rfl
  unfold results
  rw [Sem.run_bind]
  have h3 : (fn.results.mapM (fun (r : ResultVar) => (match r with | .tmp t => pure (tmps.getD t undef) | .cell a t => do loadVar t (← asAddr (tmps.getD a undef)) : Sem Value))).run P w = .ok us.toArray w := by rw [e]; exact h2
  erw [h3]
  match us with
  | [] => rfl
  | [x] => rfl
  | x :: y :: l => simp [oneV]

theorem oneA_rep {S : Nat → Prop} {m : Nat → Option Value} {w : World} {xs : List AV} {us : List Value} (hk : RepL S m w xs us) : Rep S m w (oneA xs) (oneV us) := by
  match xs, hk with
  | [], hk =>
    simp only [RepL] at hk
    subst hk
    exact ⟨[], rfl, by simp [RepL]⟩
  | [x], hk =>
    simp only [RepL] at hk
    obtain ⟨u, us, rfl, h2, rfl⟩ := hk
    exact h2
  | x :: y :: l, hk =>
    have hk' := hk
    simp only [RepL] at hk
    obtain ⟨u, us, rfl, h2, v, vs, rfl, h3⟩ := hk
    simp only [oneA, Rep]
    exact ⟨_, rfl, hk'⟩

theorem fin_ok {w0 : World} {A : Ctx} {nt : Nat} {st : St} {a : Act} {w : World} {P : Program} {fn : Func} {res : AV} {news : List (Nat × AObj)} {e : Exit} (hs : Sim w0 A nt st a w) (hf : Fin P fn.results.toList res news e st) :
    ∃ v, (results fn a.tmps).run P w = .ok v w ∧ ResOK w0 A.A w res news v := by
  obtain ⟨⟨S, m, hm, hj, ht⟩, hsz, hd⟩ := hs
  obtain ⟨_, vals, ρ, hall, h1, h2, h3, h4⟩ := hf
  obtain ⟨us, hrun, hrep⟩ := resIs_run hm ht hall
  have hr := oneA_rep hrep
  refine ⟨_, results_run hrun, ?_⟩
  revert hr
  generalize oneV us = v
  intro hr
  have kk : ∀ o, keepOf ρ news o = true ↔ ∃ p ∈ news, ρ p.1 = o := by intro o; simp [keepOf, List.mem_map]
  have hO : ∀ o ob, st.heap o = .live ob → ∃ v, m o = some v ∧ ORep w0.heap.size S m w ob v := fun o ob ho => let ⟨v, a, b, _⟩ := hm.live o ob ho; ⟨v, a, b⟩
  obtain ⟨S', hS'⟩ : ∃ S' : Nat → Prop, S' = fun b => S b ∨ ∃ o ob v, st.heap o = .live ob ∧ keepOf ρ news o = false ∧ m o = some v ∧ blk v = some b := ⟨_, rfl⟩
  have s1 : ∀ b, S b → S' b := fun b hb => by rw [hS']; exact .inl hb
  have s2 : ∀ o ob v b, st.heap o = .live ob → keepOf ρ news o = false → m o = some v → blk v = some b → S' b := fun o ob v b g1 g2 g3 g4 => by rw [hS']; exact .inr ⟨o, ob, v, g1, g2, g3, g4⟩
  have g : Grow S m w S' m w := ⟨s1, fun _ _ => rfl, fun _ _ h => h⟩
  refine ⟨S', fun o => if o ∈ news.map Prod.fst then m (ρ o) else none, ?_, ⟨hm.bel, ?_, ?_, ?_, ?_, ?_⟩⟩
  · refine Rep.unren (K := news.map Prod.fst) (m := m) (ρ := ρ) (fun o ho => if_pos ho) _ _ h2 ?_
    rw [← h1]
    refine view_rep hO s1 (fun o off n size u hk hr => ?_) (fun o u hk hr => ?_) (fun o v _ h => h) _ _ hr
    · exact sliceView_rep hO s1 (fun ob v b g1 g2 g3 => s2 o ob v b g1 hk g2 g3) hr
    · exact rowView_rep hO s1 (fun ob v b g1 g2 g3 => s2 o ob v b g1 hk g2 g3) hr
  · intro b hb
    rw [hS'] at hb
    rcases hb with hb | ⟨o, ob, v, g1, g2, g3, g4⟩
    · exact hm.sA b hb
    · obtain ⟨v', k1, k2, _⟩ := hm.live o ob g1
      rw [g3] at k1; cases k1
      exact .inr (k2.lt g4).1
  · intro b hb
    rw [hS'] at hb
    rcases hb with hb | ⟨o, ob, v, g1, g2, g3, g4⟩
    · exact hm.sW b hb
    · obtain ⟨v', k1, k2, _⟩ := hm.live o ob g1
      rw [g3] at k1; cases k1
      exact (k2.lt g4).2
  · intro o ho
    exact if_neg (lookO_un ho)
  · intro o ob ho
    have hmem := lookO_live ho
    have hin : o ∈ news.map Prod.fst := List.mem_map.2 ⟨_, hmem, rfl⟩
    obtain ⟨h5, h6⟩ := h3.mem _ hmem
    obtain ⟨v, h7, h8, h9⟩ := hm.live _ _ h5
    have h8' := h8.mono g (fun b _ => rfl)
    refine ⟨v, by simp only [if_pos hin]; exact h7, ?_, ?_⟩
    · cases ob with
      | box ty cs =>
        obtain ⟨b, us, g1, g2, g3, g4, g5⟩ := h8'
        exact ⟨b, us, g1, g2, RepL.unren (K := news.map Prod.fst) (m := m) (ρ := ρ) (fun o ho => if_pos ho) cs us h6 g3, g4, g5⟩
      | row e size n cs => exact h8'
      | map es => exact h8'
    · intro b hb hS
      rw [hS'] at hS
      rcases hS with hS | ⟨o', ob', v', k1, k2, k3, k4⟩
      · exact h9 b hb hS
      · have := hm.inj _ _ _ _ _ _ _ h5 k1 h7 k3 hb k4
        have hkt : keepOf ρ news o' = true := (kk o').2 ⟨_, hmem, this⟩
        rw [hkt] at k2; cases k2
  · intro o o' ob ob' v v' b ho ho' hv hv' hb hb'
    have g1 := lookO_live ho
    have g2 := lookO_live ho'
    have k1 : o ∈ news.map Prod.fst := List.mem_map.2 ⟨_, g1, rfl⟩
    have k2 : o' ∈ news.map Prod.fst := List.mem_map.2 ⟨_, g2, rfl⟩
    simp only [if_pos k1] at hv
    simp only [if_pos k2] at hv'
    have := hm.inj _ _ _ _ _ _ _ (h3.mem _ g1).1 (h3.mem _ g2).1 hv hv' hb hb'
    exact nodupB_inj h4 _ g1 _ g2 this

theorem initT_get : ∀ (l : List AV) (k t : Nat), lookT (initT k l) t = if k ≤ t then l.getD (t - k) .any else .any
  | [], k, t => by simp [initT, lookT]
  | x :: l, k, t => by
    simp only [initT, lookT]
    by_cases h : t = k
    · subst h; simp
    · simp only [nbeq h, cond_false]
      rw [initT_get l (k + 1) t]
      by_cases hk : k ≤ t
      · have h1 : k + 1 ≤ t := by omega
        rw [if_pos hk, if_pos h1]
        obtain ⟨d, rfl⟩ : ∃ d, t = k + 1 + d := ⟨t - (k + 1), by omega⟩
        rw [show k + 1 + d - k = d + 1 by omega, show k + 1 + d - (k + 1) = d by omega]
        simp
      · rw [if_neg hk, if_neg (by omega)]

theorem fn_intro {P : Program} {f : FuncId} {fn : Func} {c : Code} {args : List AV} {res : AV} {news : List (Nat × AObj)} (hf : P.funcs[f]? = some fn) (hb : fn.body = some c) (hn : args.length ≤ fn.ntmps)
    (h : ∀ w0 A, awp ⟨P, w0, ctx0 A, fn.ntmps⟩ c (Fin P fn.results.toList res news) (St.of (initT 0 args) [])) : Fn P f args res news := by
  intro w A us hA hr
  refine calls_of_wp hf hb ?_
  have hl := hr.length
  refine wp_mono (h w A _ w ⟨⟨A, fun _ => none, ⟨Below.refl _ _, fun b hb => .inl hb, hA, fun o _ => rfl, fun o ob ho => (by cases ho), fun o o' ob ob' v v' b ho => (by cases ho)⟩, trivial, fun t => ?_⟩, ?_, rfl⟩) ?_
  · show Rep A _ w (lookT (initT 0 args) t) _
    rw [initT_get]
    simp only [Nat.zero_le, if_true, Nat.sub_zero]
    by_cases ht : t < args.length
    · have e : args.getD t .any = args[t] := by simp [List.getD_eq_getElem?_getD, ht]
      rw [e]
      obtain ⟨u, h1, h2⟩ := hr.at_ (List.getElem?_eq_getElem ht)
      have hu : t < us.length := by omega
      have e2 : (us.toArray ++ Array.replicate (fn.ntmps - us.toArray.size) undef).getD t undef = u := by
        simp only [Array.getD_eq_getD_getElem?]
        rw [Array.getElem?_append_left (by simpa using hu)]
        simp [h1]
      rw [e2]; exact h2
    · have e : args.getD t .any = .any := by simp [List.getD_eq_getElem?_getD, Nat.le_of_not_lt ht]
      rw [e]; simp only [Rep]
  · simp only [Array.size_append, List.size_toArray, Array.size_replicate]; omega
  · rintro e a w' ⟨st, h1, h2⟩
    obtain ⟨v, hrun, hok⟩ := fin_ok h2 h1
    rcases h1.ends with rfl | rfl
    · exact ⟨h2.defers, _, hrun, _, rfl, hok⟩
    · exact ⟨h2.defers, _, hrun, _, rfl, hok⟩
end Go.Proofs.Ytgbgpidimipfjaa
