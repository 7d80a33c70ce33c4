/- The machine over data: rules for code, contracts of functions. -/
import Derived.Test.YtgbgpidimipfjaaAbr
namespace Go.Proofs.Ytgbgpidimipfjaa
open Go.RowKit Go.Sort
set_option linter.unusedVariables false

structure Env where
  P : Program
  w0 : World
  A : Ctx
  nt : Nat

def awp (G : Env) (c : Code) (Q : Exit → St → Prop) (st : St) : Prop :=
  ∀ a w, Sim G.w0 G.A G.nt st a w → c.wp G.P (fun e a' w' => ∃ st', Q e st' ∧ Sim G.w0 G.A G.nt st' a' w') a w

def Thn (K : St → Prop) (Q : Exit → St → Prop) : Exit → St → Prop
  | .normal, st => K st
  | e, st => Q e st
def InB (id : Nat) (Q : Exit → St → Prop) : Exit → St → Prop
  | .exit id', st => if id' = id then Q .normal st else Q (.exit id') st
  | e, st => Q e st

section
variable {G : Env} {Q : Exit → St → Prop} {st : St}
theorem awp_mono {c : Code} {Q' : Exit → St → Prop} (h : awp G c Q st) (k : ∀ e st, Q e st → Q' e st) : awp G c Q' st :=
  fun a w hs => wp_mono (h a w hs) fun e a' w' ⟨st', h1, h2⟩ => ⟨st', k _ _ h1, h2⟩
theorem awp_seq {x y : Code} (h : awp G x (Thn (awp G y Q) Q) st) : awp G (.seq x y) Q st := by
  intro a w hs
  refine wp_seq (wp_mono (h a w hs) ?_)
  rintro e a' w' ⟨st', h1, h2⟩
  cases e
  case normal => exact h1 a' w' h2
  all_goals exact ⟨st', h1, h2⟩
theorem awp_skip (h : Q .normal st) : awp G .skip Q st := fun a w hs => wp_skip ⟨st, h, hs⟩
theorem awp_ret (h : Q .ret st) : awp G .ret Q st := fun a w hs => wp_ret ⟨st, h, hs⟩
theorem awp_exit {id : Nat} (h : Q (.exit id) st) : awp G (.exit id) Q st := fun a w hs => wp_exit ⟨st, h, hs⟩
theorem awp_block {id : Nat} {c : Code} (h : awp G c (InB id Q) st) : awp G (.block id c) Q st := by
  intro a w hs
  refine wp_block (wp_mono (h a w hs) ?_)
  rintro e a' w' ⟨st', h1, h2⟩
  cases e
  case exit id' =>
    simp only [InB] at h1
    simp only [Exit.inBlock]
    split
    · rename_i he; rw [if_pos he] at h1; exact ⟨st', h1, h2⟩
    · rename_i he; rw [if_neg he] at h1; exact ⟨st', h1, h2⟩
  all_goals exact ⟨st', h1, h2⟩
theorem awp_cond {c : Operand} {x y : Code} (t : Bool) (hc : st.ev c = .p (.v (.bool t))) (h1 : t = true → awp G x Q st) (h2 : t = false → awp G y Q st) : awp G (.cond c x y) Q st := by
  intro a w hs
  obtain ⟨S, m, hm, hj, ht⟩ := hs.mem
  have := ev_rep ht c
  rw [hc] at this
  simp only [Rep, PRep] at this
  exact wp_cond_split this.1 (fun h => h1 h a w hs) (fun h => h2 h a w hs)
theorem awp_loop {c : Code} (I : Nat → St → Prop) {n : Nat} (h0 : I n st) (round : ∀ n st, I n st → awp G c (Thn (fun st' => ∃ n' < n, I n' st') Q) st) : awp G (.loop c) Q st := by
  intro a w hs
  let J : Nat → Act → World → Prop := fun n a w => ∃ st, I n st ∧ Sim G.w0 G.A G.nt st a w
  have key : ∃ n, J n a w := ⟨n, st, h0, hs⟩
  classical
  let μ : Act → World → Nat := fun a w => if h : ∃ n, J n a w then Classical.choose (p := fun n => J n a w ∧ ∀ k, J k a w → n ≤ k) (by
      obtain ⟨n, hn⟩ := h
      induction n using Nat.strongRecOn with
      | _ n ih =>
        by_cases hk : ∃ k, k < n ∧ J k a w
        · obtain ⟨k, h1, h2⟩ := hk; exact ih k h1 h2
        · exact ⟨n, hn, fun k hk' => Nat.le_of_not_lt fun hlt => hk ⟨k, hlt, hk'⟩⟩) else 0
  have hμ : ∀ a w, (∃ n, J n a w) → J (μ a w) a w ∧ ∀ k, J k a w → μ a w ≤ k := by
    intro a w h
    have e : μ a w = _ := dif_pos h
    rw [e]
    exact Classical.choose_spec (p := fun n => J n a w ∧ ∀ k, J k a w → n ≤ k) _
  refine wp_loop (fun a w => ∃ n, J n a w) μ key ?_
  intro a w hI
  obtain ⟨⟨st1, h1, h2⟩, h3⟩ := hμ a w hI
  refine wp_mono (round _ st1 h1 a w h2) ?_
  rintro e a' w' ⟨st', h4, h5⟩
  cases e
  case normal =>
    obtain ⟨n', hlt, hI'⟩ := h4
    refine ⟨⟨n', st', hI', h5⟩, ?_⟩
    have := (hμ a' w' ⟨n', st', hI', h5⟩).2 n' ⟨st', hI', h5⟩
    omega
  all_goals exact ⟨st', h4, h5⟩
end

/-! ### regions -/
def ARun (P : Program) (ops : Array Oper) (K : List Foot → St → Prop) : List Oper → List Foot → St → Prop
  | [], fs, st => K fs st
  | o :: l, fs, st => ∃ f st1, OkStep P ops o st f st1 ∧ ARun P ops K l (fs ++ [f]) st1

theorem arun_runs {P : Program} {ops : Array Oper} {K : List Foot → St → Prop} : ∀ (l : List Oper) (k : Nat) (fs : List Foot) (st : St), fs.length = k → (∀ j, l[j]? = ops[k + j]?) →
    ARun P ops K l fs st → ∃ fs' st', K fs' st' ∧ (∀ i, i < k → fs'.getD i ([], []) = fs.getD i ([], [])) ∧ Runs P ops (fun i => fs'.getD i ([], [])) ((List.range l.length).map (k + ·)) st st'
  | [], k, fs, st, hk, hl, h => ⟨fs, st, h, fun i hi => rfl, rfl⟩
  | o :: l, k, fs, st, hk, hl, h => by
    obtain ⟨f, st1, h1, h2⟩ := h
    obtain ⟨fs', st', h3, h4, h5⟩ := arun_runs l (k + 1) (fs ++ [f]) st1 (by simp [hk]) (fun j => by have := hl (j + 1); simpa [Nat.add_assoc, Nat.add_comm 1 j] using this) h2
    refine ⟨fs', st', h3, fun i hi => ?_, ?_⟩
    · rw [h4 i (by omega)]
      simp only [List.getD_eq_getElem?_getD]
      rw [List.getElem?_append_left (by omega)]
    · rw [List.length_cons, List.range_succ_eq_map, List.map_cons, List.map_map]
      refine ⟨o, st1, by simpa using (hl 0).symm, ?_, ?_⟩
      · have := h4 (k + 0) (by omega)
        simp only [this]
        have e : (fs ++ [f]).getD (k + 0) ([], []) = f := by
          simp only [List.getD_eq_getElem?_getD, Nat.add_zero]
          rw [List.getElem?_append_right (by omega)]
          simp [hk]
        rw [e]
        exact h1
      · have e : ((fun x => k + x) ∘ Nat.succ) = (fun x => k + 1 + x) := by funext x; simp; omega
        rw [e]
        exact h5

theorem unlisted_none (n : Nat) : unlisted n (Array.replicate n false) = List.range n := by
  unfold unlisted
  refine List.filter_eq_self.2 fun i hi => ?_
  have : i < n := by simpa using hi
  simp [this]

theorem wpOps_of_runs {P : Program} {ops : Array Oper} {F : Nat → Foot} {nt : Nat} (hd : ∀ (i : Nat) (o : Oper), ops[i]? = some o → ∀ d, o.dst = some d → d < nt) {w0 : World} {A : Ctx} {Q : Exit → Act → World → Prop} {st' : St}
    (hQ : ∀ a w, Sim w0 A nt st' a w → Q .normal a w) : ∀ (l : List Nat) (st : St) (a : Act) (w : World), Runs P ops F l st st' → Sim w0 A nt st a w → wpOps P ops Q l a w
  | [], st, a, w, h, hs => by
    simp only [Runs] at h; subst h
    exact hQ a w hs
  | i :: l, st, a, w, h, hs => by
    obtain ⟨o, st1, ho, h1, h2⟩ := h
    rw [wpOps_cons]
    exact h1.sound hs (hd i o ho) ho fun a' w' hs' => wpOps_of_runs hd hQ l st1 a' w' h2 hs'

theorem Sim.drew {w0 : World} {A : Ctx} {nt : Nat} {st : St} {a : Act} {w : World} (h : Sim w0 A nt st a w) : Sim w0 A nt st a { w with drawn := w.drawn + 1 } := by
  obtain ⟨⟨S, m, hm, hj, ht⟩, hs, hd⟩ := h
  have g : Grow S m w S m { w with drawn := w.drawn + 1 } := ⟨fun _ h => h, fun _ _ => rfl, fun _ _ h => h⟩
  exact ⟨⟨S, m, ⟨hm.bel.drew, hm.sA, hm.sW, hm.un, fun o ob ho => by
    obtain ⟨v, h1, h2, h3⟩ := hm.live o ob ho
    exact ⟨v, h1, h2.mono g fun _ _ => rfl, h3⟩, hm.inj⟩, A.up _ _ _ _ _ _ g hj, fun t => Rep.mono g _ _ (ht t)⟩, hs, hd⟩

theorem awp_region_draw {G : Env} {Q : Exit → St → Prop} {st : St} {id : Nat} {l : List Oper} {fuel : Nat} (hm : G.P.follows .mixedOrders = true)
    (h : ARun G.P l.toArray (fun fs st' => regionOK G.nt fuel l.toArray fs = true ∧ Q .normal st') l [] st) : awp G (.region id l.toArray true) Q st := by
  intro a w hs
  obtain ⟨fs, st', ⟨h1, h2⟩, _, h4⟩ := arun_runs l 0 [] st rfl (fun j => by simp) h
  refine wp_region_any hm (wpAny_of_runs h1 (fun a w hs => ⟨st', h2, hs⟩) _ _ st _ _ (by simp) ?_ ?_ ?_ hs.drew)
  · intro j o hj hl
    rcases Nat.lt_or_ge j l.length with h | h
    · simp [h] at hl
    · rw [Array.getElem?_eq_none_iff.2 (show l.toArray.size ≤ j by simpa using h)] at hj
      cases hj
  · rw [unlisted_none]; simp
  · rw [unlisted_none]; simpa using h4

def dstOK (nt : Nat) (l : List Oper) : Bool := l.all fun o => match o.dst with | some d => Nat.blt d nt | none => true

theorem awp_region_text {G : Env} {Q : Exit → St → Prop} {st : St} {id : Nat} {l : List Oper} (hd : dstOK G.nt l = true)
    (h : ARun G.P l.toArray (fun fs st' => Q .normal st') l [] st) : awp G (.region id l.toArray false) Q st := by
  intro a w hs
  obtain ⟨fs, st', h2, _, h4⟩ := arun_runs l 0 [] st rfl (fun j => by simp) h
  refine wp_region (wpOps_of_runs (fun i o hi d hd' => ?_) (fun a w hs => ⟨st', h2, hs⟩) _ st _ _ (by simpa using h4) hs)
  simp only [dstOK, List.all_eq_true] at hd
  have hi' : l[i]? = some o := by simpa using hi
  have := hd o (List.mem_of_getElem? hi')
  rw [hd'] at this
  exact of_decide_eq_true (by simpa [Nat.blt_eq] using this)

/-! ### restating a state -/
mutual
def AV.ren (ρ : Nat → Nat) : AV → AV
  | .p x => .p x
  | .agg cs => .agg (AV.renL ρ cs)
  | .tup cs => .tup (AV.renL ρ cs)
  | .ptr cs => .ptr cs
  | .ref o off => .ref (ρ o) off
  | .row o => .row (ρ o)
  | .psl o off n size => .psl (ρ o) off n size
  | .fn f cs => .fn f (AV.renL ρ cs)
  | .mb b x => .mb b (x.ren ρ)
  | .ifc => .ifc
  | .mp o => .mp (ρ o)
  | .any => .any
def AV.renL (ρ : Nat → Nat) : List AV → List AV
  | [] => []
  | c :: cs => c.ren ρ :: AV.renL ρ cs
end
mutual
theorem ren_id : ∀ x : AV, x.ren (fun o => o) = x
  | .p x => rfl
  | .agg cs => by simp only [AV.ren, renL_id cs]
  | .tup cs => by simp only [AV.ren, renL_id cs]
  | .ptr cs => rfl
  | .ref o off => rfl
  | .row o => rfl
  | .psl o off n size => rfl
  | .fn f cs => by simp only [AV.ren, renL_id cs]
  | .mb b x => by simp only [AV.ren, ren_id x]
  | .ifc => rfl
  | .mp o => rfl
  | .any => rfl
theorem renL_id : ∀ x : List AV, AV.renL (fun o => o) x = x
  | [] => rfl
  | c :: cs => by simp only [AV.renL, ren_id c, renL_id cs]
end
def AObj.ren (ρ : Nat → Nat) : AObj → AObj
  | .box ty cs => .box ty (AV.renL ρ cs)
  | .row e size n cs => .row e size n cs
  | .map es => .map es
mutual
def AV.okIn (K : List Nat) : AV → Bool
  | .agg cs => AV.okInL K cs
  | .tup cs => AV.okInL K cs
  | .ref o _ => K.elem o
  | .row o => K.elem o
  | .psl o _ _ _ => K.elem o
  | .fn _ cs => AV.okInL K cs
  | .mb _ x => x.okIn K
  | .p _ => true
  | .ptr _ => true
  | .ifc => true
  | .mp o => K.elem o
  | .any => true
def AV.okInL (K : List Nat) : List AV → Bool
  | [] => true
  | c :: cs => c.okIn K && AV.okInL K cs
end
def AObj.okIn (K : List Nat) : AObj → Bool
  | .box _ cs => AV.okInL K cs
  | .row .. => true
  | .map _ => true

section
variable {S : Nat → Prop} {w : World}
mutual
theorem Rep.unren {m m' : Nat → Option Value} {ρ : Nat → Nat} {K : List Nat} (hm : ∀ o ∈ K, m' o = m (ρ o)) : ∀ (x : AV) (u : Value), x.okIn K = true → Rep S m w (x.ren ρ) u → Rep S m' w x u
  | .p x, u, _, h => by simpa only [Rep, AV.ren] using h
  | .agg cs, u, hk, h => by
    simp only [AV.ren, Rep] at h ⊢
    obtain ⟨us, h1, h2, h3⟩ := h
    exact ⟨us, h1, RepL.unren hm cs us (by simpa only [AV.okIn] using hk) h2, h3⟩
  | .tup cs, u, hk, h => by
    simp only [AV.ren, Rep] at h ⊢
    obtain ⟨us, h1, h2⟩ := h
    exact ⟨us, h1, RepL.unren hm cs us (by simpa only [AV.okIn] using hk) h2⟩
  | .ptr cs, u, _, h => by simpa only [Rep, AV.ren] using h
  | .ref o off, u, hk, h => by
    simp only [AV.ren, Rep] at h ⊢
    have ho : o ∈ K := by simpa [AV.okIn] using hk
    rw [hm o ho]; exact h
  | .row o, u, hk, h => by
    simp only [AV.ren, Rep] at h ⊢
    have ho : o ∈ K := by simpa [AV.okIn] using hk
    rw [hm o ho]; exact h
  | .psl o off n _, u, hk, h => by
    simp only [AV.ren, Rep] at h ⊢
    have ho : o ∈ K := by simpa [AV.okIn] using hk
    rw [hm o ho]; exact h
  | .fn f cs, u, hk, h => by
    simp only [AV.ren, Rep] at h ⊢
    obtain ⟨us, h1, h2⟩ := h
    exact ⟨us, h1, RepL.unren hm cs us (by simpa only [AV.okIn] using hk) h2⟩
  | .mb b x, u, hk, h => by
    simp only [AV.ren, Rep] at h ⊢
    exact fun hb => Rep.unren hm x u (by simpa only [AV.okIn] using hk) (h hb)
  | .ifc, u, _, h => by simpa only [Rep, AV.ren] using h
  | .mp o, u, hk, h => by
    simp only [AV.ren, Rep] at h ⊢
    have ho : o ∈ K := by simpa [AV.okIn] using hk
    rw [hm o ho]; exact h
  | .any, u, _, h => by simp only [Rep]
theorem RepL.unren {m m' : Nat → Option Value} {ρ : Nat → Nat} {K : List Nat} (hm : ∀ o ∈ K, m' o = m (ρ o)) : ∀ (x : List AV) (u : List Value), AV.okInL K x = true → RepL S m w (AV.renL ρ x) u → RepL S m' w x u
  | [], u, _, h => by simpa only [AV.renL, RepL] using h
  | c :: cs, u, hk, h => by
    simp only [AV.okInL, Bool.and_eq_true] at hk
    simp only [AV.renL, RepL] at h ⊢
    obtain ⟨u, us, h1, h2, h3⟩ := h
    exact ⟨u, us, h1, Rep.unren hm c u hk.1 h2, RepL.unren hm cs us hk.2 h3⟩
end
mutual
theorem Rep.ren {m m' : Nat → Option Value} {ρ : Nat → Nat} (hm : ∀ o v, m o = some v → m' (ρ o) = some v) : ∀ (x : AV) (u : Value), Rep S m w x u → Rep S m' w (x.ren ρ) u
  | .p x, u, h => by simpa only [Rep, AV.ren] using h
  | .agg cs, u, h => by
    simp only [AV.ren, Rep] at h ⊢
    obtain ⟨us, h1, h2, h3⟩ := h
    exact ⟨us, h1, RepL.ren hm cs us h2, h3⟩
  | .tup cs, u, h => by
    simp only [AV.ren, Rep] at h ⊢
    obtain ⟨us, h1, h2⟩ := h
    exact ⟨us, h1, RepL.ren hm cs us h2⟩
  | .ptr cs, u, h => by simpa only [Rep, AV.ren] using h
  | .ref o off, u, h => by
    simp only [AV.ren, Rep] at h ⊢
    obtain ⟨b, v0, h1, h2⟩ := h
    exact ⟨b, v0, hm _ _ h1, h2⟩
  | .row o, u, h => by
    simp only [AV.ren, Rep] at h ⊢
    exact ⟨hm _ _ h.1, h.2⟩
  | .psl o off n _, u, h => by
    simp only [AV.ren, Rep] at h ⊢
    obtain ⟨a, cap, h1, h2, h3⟩ := h
    refine ⟨a, cap, h1, h2, ?_⟩
    rcases h3 with h3 | ⟨b, v0, h4, h5, h6⟩
    · exact .inl h3
    · exact .inr ⟨b, v0, hm _ _ h4, h5, h6⟩
  | .fn f cs, u, h => by
    simp only [AV.ren, Rep] at h ⊢
    obtain ⟨us, h1, h2⟩ := h
    exact ⟨us, h1, RepL.ren hm cs us h2⟩
  | .mb b x, u, h => by
    simp only [AV.ren, Rep] at h ⊢
    exact fun hb => Rep.ren hm x u (h hb)
  | .ifc, u, h => by simpa only [Rep, AV.ren] using h
  | .mp o, u, h => by simp only [AV.ren, Rep] at h ⊢; exact ⟨hm _ _ h.1, h.2⟩
  | .any, u, h => by simp only [Rep, AV.ren]
theorem RepL.ren {m m' : Nat → Option Value} {ρ : Nat → Nat} (hm : ∀ o v, m o = some v → m' (ρ o) = some v) : ∀ (x : List AV) (u : List Value), RepL S m w x u → RepL S m' w (AV.renL ρ x) u
  | [], u, h => by simpa only [AV.renL, RepL] using h
  | c :: cs, u, h => by
    simp only [AV.renL, RepL] at h ⊢
    obtain ⟨u, us, h1, h2, h3⟩ := h
    exact ⟨u, us, h1, Rep.ren hm c u h2, RepL.ren hm cs us h3⟩
end
end

def lookT : List (Nat × AV) → Nat → AV
  | [], _ => .any
  | (n, x) :: l, t => bif Nat.beq t n then x else lookT l t
def lookO : List (Nat × AObj) → Nat → Slot
  | [], _ => .un
  | (n, x) :: l, t => bif Nat.beq t n then .live x else lookO l t
/-- a state written out -/
def St.of (ts : List (Nat × AV)) (hs : List (Nat × AObj)) : St := ⟨lookT ts, lookO hs⟩

theorem lookT_mem : ∀ {l : List (Nat × AV)} {t : Nat}, lookT l t = .any ∨ ∃ p ∈ l, p.1 = t ∧ p.2 = lookT l t
  | [], t => .inl rfl
  | (n, x) :: l, t => by
    by_cases h : t = n
    · subst h; exact .inr ⟨(t, x), by simp, rfl, by simp [lookT]⟩
    · simp only [lookT, nbeq h, cond_false]
      rcases lookT_mem (l := l) (t := t) with h1 | ⟨p, h1, h2, h3⟩
      · exact .inl h1
      · exact .inr ⟨p, by simp [h1], h2, h3⟩
theorem lookO_live : ∀ {l : List (Nat × AObj)} {t : Nat} {ob : AObj}, lookO l t = .live ob → (t, ob) ∈ l
  | [], t, ob, h => by cases h
  | (n, x) :: l, t, ob, h => by
    by_cases hn : t = n
    · subst hn; simp [lookO] at h; subst h; simp
    · simp only [lookO, nbeq hn, cond_false] at h
      exact List.mem_cons_of_mem _ (lookO_live h)
theorem lookO_un : ∀ {l : List (Nat × AObj)} {t : Nat}, lookO l t = .un → t ∉ l.map Prod.fst
  | [], t, h => by simp
  | (n, x) :: l, t, h => by
    by_cases hn : t = n
    · subst hn; simp [lookO] at h
    · simp only [lookO, nbeq hn, cond_false] at h
      simp only [List.map_cons, List.mem_cons, not_or]
      exact ⟨hn, lookO_un h⟩

def LeT (ρ : Nat → Nat) (st : St) (K : List Nat) : List (Nat × AV) → Prop
  | [] => True
  | (t, x) :: l => (st.tmps t = x.ren ρ ∧ x.okIn K = true) ∧ LeT ρ st K l
def LeO (ρ : Nat → Nat) (st : St) (K : List Nat) : List (Nat × AObj) → Prop
  | [] => True
  | (o, x) :: l => (st.heap (ρ o) = .live (x.ren ρ) ∧ x.okIn K = true) ∧ LeO ρ st K l
theorem LeT.mem {ρ : Nat → Nat} {st : St} {K : List Nat} : ∀ {l : List (Nat × AV)}, LeT ρ st K l → ∀ p ∈ l, st.tmps p.1 = p.2.ren ρ ∧ p.2.okIn K = true
  | [], _, p, hp => by cases hp
  | (t, x) :: l, h, p, hp => by
    rcases List.mem_cons.1 hp with rfl | hp
    · exact h.1
    · exact LeT.mem h.2 p hp
theorem LeO.mem {ρ : Nat → Nat} {st : St} {K : List Nat} : ∀ {l : List (Nat × AObj)}, LeO ρ st K l → ∀ p ∈ l, st.heap (ρ p.1) = .live (p.2.ren ρ) ∧ p.2.okIn K = true
  | [], _, p, hp => by cases hp
  | (t, x) :: l, h, p, hp => by
    rcases List.mem_cons.1 hp with rfl | hp
    · exact h.1
    · exact LeO.mem h.2 p hp

def nodupB : List Nat → Bool
  | [] => true
  | x :: l => !l.elem x && nodupB l
theorem nodupB_inj {α : Type} {ρ : Nat → Nat} : ∀ {l : List (Nat × α)}, nodupB (l.map fun p => ρ p.1) = true → ∀ p ∈ l, ∀ q ∈ l, ρ p.1 = ρ q.1 → p.1 = q.1
  | [], _, p, hp, _, _, _ => by cases hp
  | x :: l, h, p, hp, q, hq, e => by
    simp only [List.map_cons, nodupB, Bool.and_eq_true, Bool.not_eq_true', List.elem_eq_mem, decide_eq_false_iff_not, List.mem_map, not_exists, not_and] at h
    rcases List.mem_cons.1 hp with hp | hp <;> rcases List.mem_cons.1 hq with hq | hq
    · rw [hp, hq]
    · rw [hp] at e; exact absurd e.symm (h.1 q hq)
    · rw [hq] at e; exact absurd e (h.1 p hp)
    · exact nodupB_inj h.2 p hp q hq e

theorem Sim.restate {w0 : World} {A : Nat → Prop} {nt : Nat} {st : St} {a : Act} {w : World} (ρ : Nat → Nat) (ts : List (Nat × AV)) (hs : List (Nat × AObj))
    (h1 : LeT ρ st (hs.map Prod.fst) ts) (h2 : LeO ρ st (hs.map Prod.fst) hs) (h3 : nodupB (hs.map fun p => ρ p.1) = true) (h : Sim w0 (ctx0 A) nt st a w) : Sim w0 (ctx0 A) nt (St.of ts hs) a w := by
  obtain ⟨⟨S, m, hm, hj, ht⟩, hsz, hd⟩ := h
  refine ⟨⟨S, fun o => if o ∈ hs.map Prod.fst then m (ρ o) else none, ⟨hm.bel, hm.sA, hm.sW, ?_, ?_, ?_⟩, trivial, ?_⟩, hsz, hd⟩
  · intro o ho
    exact if_neg (lookO_un ho)
  · intro o ob ho
    have hmem := lookO_live ho
    have hin : o ∈ hs.map Prod.fst := List.mem_map.2 ⟨_, hmem, rfl⟩
    obtain ⟨h4, h5⟩ := h2.mem _ hmem
    obtain ⟨v, h6, h7, h8⟩ := hm.live _ _ h4
    refine ⟨v, by simp only [if_pos hin]; exact h6, ?_, h8⟩
    cases ob with
    | box ty cs =>
      obtain ⟨b, us, g1, g2, g3, g4, g5⟩ := h7
      exact ⟨b, us, g1, g2, RepL.unren (K := hs.map Prod.fst) (m := m) (ρ := ρ) (fun o ho => if_pos ho) cs us h5 g3, g4, g5⟩
    | row e size n cs => exact h7
    | map es => exact h7
  · intro o o' ob ob' v v' b ho ho' hv hv' hb hb'
    have g1 := lookO_live ho
    have g2 := lookO_live ho'
    have k1 : o ∈ hs.map Prod.fst := List.mem_map.2 ⟨_, g1, rfl⟩
    have k2 : o' ∈ hs.map Prod.fst := List.mem_map.2 ⟨_, g2, rfl⟩
    simp only [if_pos k1] at hv
    simp only [if_pos k2] at hv'
    have := hm.inj _ _ _ _ _ _ _ (h2.mem _ g1).1 (h2.mem _ g2).1 hv hv' hb hb'
    exact nodupB_inj h3 _ g1 _ g2 this
  · intro t
    show Rep _ _ _ (lookT ts t) _
    rcases lookT_mem (l := ts) (t := t) with h | ⟨p, g1, g2, g3⟩
    · rw [h]; simp only [Rep]
    · obtain ⟨k1, k2⟩ := h1.mem p g1
      rw [← g3]
      subst g2
      refine Rep.unren (K := hs.map Prod.fst) (m := m) (ρ := ρ) (fun o ho => if_pos ho) _ _ k2 ?_
      rw [← k1]
      exact ht _

theorem awp_restate {P : Program} {w0 : World} {A : Nat → Prop} {nt : Nat} {c : Code} {Q : Exit → St → Prop} {st : St} (ρ : Nat → Nat) (ts : List (Nat × AV)) (hs : List (Nat × AObj))
    (h1 : LeT ρ st (hs.map Prod.fst) ts) (h2 : LeO ρ st (hs.map Prod.fst) hs) (h3 : nodupB (hs.map fun p => ρ p.1) = true) (h : awp ⟨P, w0, ctx0 A, nt⟩ c Q (St.of ts hs)) : awp ⟨P, w0, ctx0 A, nt⟩ c Q st :=
  fun a w hsim => h a w (hsim.restate ρ ts hs h1 h2 h3)

/-- a rule that holds of the state restated -/
def Re (st st' : St) : Prop := ∀ (w0 : World) (A : Nat → Prop) (nt : Nat) (a : Act) (w : World), Sim w0 (ctx0 A) nt st a w → Sim w0 (ctx0 A) nt st' a w
theorem awp_re {P : Program} {w0 : World} {A : Nat → Prop} {nt : Nat} {c : Code} {Q : Exit → St → Prop} {st st' : St} (r : Re st st') (h : awp ⟨P, w0, ctx0 A, nt⟩ c Q st') : awp ⟨P, w0, ctx0 A, nt⟩ c Q st := fun a w hs => h a w (r _ _ _ a w hs)
theorem awp_post_re {P : Program} {w0 : World} {A : Nat → Prop} {nt : Nat} {c : Code} {Q Q' : Exit → St → Prop} {st : St} (h : awp ⟨P, w0, ctx0 A, nt⟩ c Q st) (k : ∀ e st, Q e st → ∃ st', Re st st' ∧ Q' e st') : awp ⟨P, w0, ctx0 A, nt⟩ c Q' st :=
  fun a w hs => wp_mono (h a w hs) fun e a' w' ⟨st1, h1, h2⟩ => by
    obtain ⟨st', h3, h4⟩ := k _ _ h1
    exact ⟨st', h4, h3 _ _ _ _ _ h2⟩
end Go.Proofs.Ytgbgpidimipfjaa
