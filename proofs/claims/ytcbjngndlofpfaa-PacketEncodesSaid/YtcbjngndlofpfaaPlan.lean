/- A region that draws its order, walked once by a plan: reads taken as early as they can be, all else one after the other. A read must give one value in every world that is as the present one below a chosen block; every other operation must keep those blocks. -/
import Derived.StillTail
import Derived.Lib.QuietBelow
import Derived.Test.YtcbjngndlofpfaaLib
namespace Go.Proofs.Ytcbjngndlofpfaa
open Go.RowKit Go.Sort

def NP (Q : Exit → Act → World → Prop) : Exit → Act → World → Prop
  | .panic _, _, _ => False
  | e, a, w => Q e a w

def readUpon (w : World) (v : Value) : Result Next → Prop
  | .ok (.value u) w' => w' = w ∧ u = v
  | .ok .skip w' => w' = w ∧ v = undef
  | _ => False

section
variable {P : Program} {ops : Array Oper} {md : Region.Mode} {Q : Exit → Act → World → Prop}

def YR (P : Program) (ops : Array Oper) (C : World → Prop) (o : Oper) (v : Value) (a : Act) : Prop :=
  (Region.wanted o (yielded ops a.tmps) = true ∧ ∀ w, C w → readUpon w v ((execOp a.eval o).run P w)) ∨ (Region.wanted o (yielded ops a.tmps) = false ∧ v = undef)

def rdOp (P : Program) (ops : Array Oper) (C : World → Prop) (i : Nat) (K : Act → Prop) (a : Act) : Prop :=
  ∃ o v, ops[i]? = some o ∧ YR P ops C o v a ∧ K (a.put o.dst v)

def srOp (P : Program) (ops : Array Oper) (Q : Exit → Act → World → Prop) (i : Nat) (K : Act → World → Prop) (a : Act) (w : World) : Prop :=
  ∃ o, ops[i]? = some o ∧ if Region.wanted o (yielded ops a.tmps) = true then o.wp P a w K (NP Q) else K (a.put o.dst undef) w

def wpAnyC (P : Program) (md : Region.Mode) (ops : Array Oper) (Q : Exit → Act → World → Prop) : (World → Prop) → Nat → Array Bool → Act → World → Prop
  | _, 0, listed, a, w => Region.ready md ops listed = [] ∧ Q .normal a w
  | C, f + 1, listed, a, w => (Region.ready md ops listed = [] → Q .normal a w) ∧ ∀ i ∈ Region.ready md ops listed,
      rdOp P ops C i (fun a' => wpAnyC P md ops Q C f (listed.setIfInBounds i true) a' w) a ∨
      srOp P ops Q i (fun a' w' => C w' ∧ ∃ C' : World → Prop, C' w' ∧ (∀ x, C' x → C x) ∧ wpAnyC P md ops Q C' f (listed.setIfInBounds i true) a' w') a w

theorem letsOut_np (h : LetsOut (NP Q)) : LetsOut Q := by
  obtain ⟨a, w, h⟩ := h
  exact ⟨a, w, h⟩

theorem wp_np {o : Oper} {a : Act} {w : World} {K K' : Act → World → Prop} (h : ∀ a w, K a w → K' a w) (hh : o.wp P a w K (NP Q)) : o.wp P a w K' Q := by
  unfold Oper.wp at *
  generalize (execOp a.eval o).run P w = r at *
  cases r with
  | ok n w' =>
    cases n <;> simp only [Oper.upon] at hh ⊢
    case value => exact h _ _ hh
    case skip => exact h _ _ hh
    case defer => exact h _ _ hh
    case enter =>
      refine hh.mono fun e w'' he => ?_
      cases e
      · exact h _ _ he
      · exact (he : False).elim
      · exact letsOut_np he
    case row => exact hh.mono fun _ _ he => h _ _ he
    all_goals exact hh
  | halt x w' =>
    cases x <;> simp only [Oper.upon] at hh ⊢
    all_goals exact (hh : False).elim

theorem wpAny_of_C : ∀ (f : Nat) (C : World → Prop) (listed : Array Bool) (a : Act) (w : World), C w → wpAnyC P md ops Q C f listed a w → wpAny P md ops Q f listed a w
  | 0, _, _, _, _, _, h => h
  | f + 1, C, listed, a, w, hw, h => by
    refine ⟨h.1, fun i hi => ?_⟩
    rcases h.2 i hi with ⟨o, v, ho, hy, hK⟩ | ⟨o, ho, hK⟩
    · unfold wpOp
      simp only [ho]
      rcases hy with ⟨h1, h2⟩ | ⟨h1, rfl⟩
      · simp only [h1, if_true]
        refine .inl ?_
        have h3 := h2 w hw
        unfold Oper.wp
        generalize (execOp a.eval o).run P w = r at h3
        cases r with
        | ok n w' =>
          cases n <;> simp only [readUpon] at h3 <;> simp only [Oper.upon]
          · obtain ⟨rfl, rfl⟩ := h3; exact wpAny_of_C f C _ _ _ hw hK
          · obtain ⟨rfl, rfl⟩ := h3; exact wpAny_of_C f C _ _ _ hw hK
        | halt x w' => simp only [readUpon] at h3
      · simp only [h1, Bool.false_eq_true, if_false]
        exact wpAny_of_C f C _ _ _ hw hK
    · unfold wpOp
      simp only [ho]
      split at hK
      · rename_i h1
        rw [if_pos h1]
        exact .inl (wp_np (fun a' w' ⟨_, C', h2, _, h4⟩ => wpAny_of_C f C' _ _ _ h2 h4) hK)
      · rename_i h1
        rw [if_neg h1]
        obtain ⟨_, C', h2, _, h4⟩ := hK
        exact wpAny_of_C f C' _ _ _ h2 h4

theorem YR.of_same {C : World → Prop} {o : Oper} {v : Value} {a a' : Act} (hy : YR P ops C o v a) (he : execOp a'.eval o = execOp a.eval o)
    (hw : Region.wanted o (yielded ops a'.tmps) = Region.wanted o (yielded ops a.tmps)) : YR P ops C o v a' := by
  unfold YR at *
  rw [he, hw]
  exact hy
theorem YR.sub {C C' : World → Prop} {o : Oper} {v : Value} {a : Act} (hy : YR P ops C o v a) (h : ∀ x, C' x → C x) : YR P ops C' o v a := by
  rcases hy with ⟨h1, h2⟩ | h1
  · exact .inl ⟨h1, fun w hw => h2 w (h w hw)⟩
  · exact .inr h1

theorem rd_put {C : World → Prop} {j : Nat} {oi oj : Oper} {v : Value} (hj : ops[j]? = some oj) (hap : oi.apart ops oj = true)
    (hsi : ∀ cs b, oi.op ≠ .select cs b) (hsj : ∀ cs b, oj.op ≠ .select cs b) {K : Act → Prop} {a : Act}
    (hy : YR P ops C oi v a) (h : rdOp P ops C j K (a.put oi.dst v)) : rdOp P ops C j (fun a' => YR P ops C oi v a' ∧ K (a'.put oi.dst v)) a := by
  obtain ⟨h1, h2, h3⟩ := Oper.apart_spec hap
  obtain ⟨o, u, ho, hyj, hK⟩ := h
  have : o = oj := Option.some.inj (ho.symm.trans hj)
  subst this
  refine ⟨o, u, ho, hyj.of_same (execOp_put o hsj a oi.dst v h1).symm (wanted_put o a oi.dst v h1).symm, hy.of_same (execOp_put oi hsi a o.dst u h3) (wanted_put oi a o.dst u h3), ?_⟩
  rw [← Act.put_comm a v u h2]
  exact hK

theorem put_defers (a : Act) (x : Option Tmp) (v : Value) (d : _) : ({ a.put x v with defers := d :: (a.put x v).defers } : Act) = ({ a with defers := d :: a.defers } : Act).put x v := by
  cases x <;> rfl

theorem sr_put {C : World → Prop} {j : Nat} {oi oj : Oper} {v : Value} (hj : ops[j]? = some oj) (hap : oi.apart ops oj = true)
    (hsi : ∀ cs b, oi.op ≠ .select cs b) (hsj : ∀ cs b, oj.op ≠ .select cs b) {K : Act → World → Prop} {a : Act} {w : World}
    (hy : YR P ops C oi v a) (h : srOp P ops Q j K (a.put oi.dst v) w) : srOp P ops Q j (fun a' w' => YR P ops C oi v a' ∧ K (a'.put oi.dst v) w') a w := by
  obtain ⟨h1, h2, h3⟩ := Oper.apart_spec hap
  obtain ⟨o, ho, hK⟩ := h
  have : o = oj := Option.some.inj (ho.symm.trans hj)
  subst this
  refine ⟨o, ho, ?_⟩
  have keep : ∀ u, YR P ops C oi v (a.put o.dst u) := fun u => hy.of_same (execOp_put oi hsi a o.dst u h3) (wanted_put oi a o.dst u h3)
  rw [wanted_put o a oi.dst v h1] at hK
  split
  · rename_i hw
    rw [if_pos hw] at hK
    unfold Oper.wp at hK ⊢
    rw [execOp_put o hsj a oi.dst v h1] at hK
    generalize (execOp a.eval o).run P w = r at *
    cases r with
    | ok n w' =>
      cases n <;> simp only [Oper.upon] at hK ⊢
      case value u => exact ⟨keep u, by rw [← Act.put_comm a v u h2]; exact hK⟩
      case skip => exact ⟨keep _, by rw [← Act.put_comm a v _ h2]; exact hK⟩
      case defer d =>
        rw [put_defers] at hK
        refine ⟨?_, by rw [← Act.put_comm _ v _ h2]; exact hK⟩
        have hy' : YR P ops C oi v ({ a with defers := d :: a.defers } : Act) := hy.of_same rfl rfl
        exact hy'.of_same (execOp_put oi hsi _ o.dst _ h3) (wanted_put oi _ o.dst _ h3)
      case enter f args =>
        refine hK.mono fun e w'' he => ?_
        cases e
        · exact ⟨keep _, by rw [← Act.put_comm a v _ h2]; exact he⟩
        · exact (he : False).elim
        · exact he
      case row => exact hK.mono fun u w'' he => ⟨keep u, by rw [← Act.put_comm a v u h2]; exact he⟩
      all_goals exact hK
    | halt x w' =>
      cases x <;> simp only [Oper.upon] at hK ⊢
      all_goals exact (hK : False).elim
  · rename_i hw
    rw [if_neg hw] at hK
    exact ⟨keep _, by rw [← Act.put_comm a v _ h2]; exact hK⟩

theorem rd_mono {C : World → Prop} {i : Nat} {a : Act} {K K' : Act → Prop} (h : ∀ a, K a → K' a) (hh : rdOp P ops C i K a) : rdOp P ops C i K' a :=
  let ⟨o, v, h1, h2, h3⟩ := hh
  ⟨o, v, h1, h2, h _ h3⟩
theorem sr_mono {i : Nat} {a : Act} {w : World} {K K' : Act → World → Prop} (h : ∀ a w, K a w → K' a w) (hh : srOp P ops Q i K a w) : srOp P ops Q i K' a w := by
  obtain ⟨o, ho, hK⟩ := hh
  refine ⟨o, ho, ?_⟩
  split
  · rename_i hw; rw [if_pos hw] at hK; exact Oper.wp_mono h hK
  · rename_i hw; rw [if_neg hw] at hK; exact h _ _ hK

theorem wpAnyC_first {i : Nat} {oi : Oper} {v : Value} (hi : ops[i]? = some oi) (hsel : ∀ (j : Nat) (o : Oper) cs b, ops[j]? = some o → o.op ≠ .select cs b) :
    ∀ (f : Nat) (C : World → Prop) (listed : Array Bool) (a : Act) (w : World),
      (∀ j oj, ops[j]? = some oj → j ≠ i → listed.getD j true = false → (∀ e ∈ oj.after, Region.binds md e = true → e.on ≠ i) → oi.apart ops oj = true) →
      i ∈ Region.ready md ops listed → YR P ops C oi v a →
      wpAnyC P md ops Q C f (listed.setIfInBounds i true) (a.put oi.dst v) w → wpAnyC P md ops Q C (f + 1) listed a w := by
  intro f
  induction f with
  | zero =>
    intro C listed a w _ hr hy H
    refine ⟨fun h => (by rw [h] at hr; cases hr), fun j hj => ?_⟩
    by_cases hji : j = i
    · subst hji; exact .inl ⟨oi, v, hi, hy, H⟩
    · have := ready_mono hj hji
      rw [H.1] at this
      cases this
  | succ f ih =>
    intro C listed a w hfree hr hy H
    refine ⟨fun h => (by rw [h] at hr; cases hr), fun j hj => ?_⟩
    by_cases hji : j = i
    · subst hji; exact .inl ⟨oi, v, hi, hy, H⟩
    · have h1 := H.2 j (ready_mono hj hji)
      obtain ⟨hjun, oj, hoj, hall⟩ := mem_ready.1 hj
      have hnot : ∀ e ∈ oj.after, Region.binds md e = true → e.on ≠ i := fun e he hb heq => by
        have h1 := hall e he hb
        have h0 := (mem_ready.1 hr).1
        rw [heq] at h1
        rcases Nat.lt_or_ge i listed.size with h' | h'
        · simp [h'] at h0 h1; rw [h0] at h1; cases h1
        · simp [Array.getElem?_eq_none h'] at h1
      have hfree' : ∀ k ok, ops[k]? = some ok → k ≠ i → (listed.setIfInBounds j true).getD k true = false →
          (∀ e ∈ ok.after, Region.binds md e = true → e.on ≠ i) → oi.apart ops ok = true := fun k ok hk hki hun hno => by
        refine hfree k ok hk hki ?_ hno
        by_cases hjk : j = k
        · subst hjk; exact hjun
        · rw [getD_set_ne true hjk] at hun; exact hun
      have hap := hfree j oj hoj hji hjun hnot
      rcases h1 with h1 | h1
      · refine .inl (rd_mono (fun a' h3 => ih C (listed.setIfInBounds j true) a' w hfree' (ready_mono hr (Ne.symm hji)) h3.1 ?_) (rd_put hoj hap (fun cs b => hsel i oi cs b hi) (fun cs b => hsel j oj cs b hoj) hy h1))
        rw [Array.setIfInBounds_comm _ _ hji]
        exact h3.2
      · refine .inr (sr_mono (fun a' w' h3 => ?_) (sr_put hoj hap (fun cs b => hsel i oi cs b hi) (fun cs b => hsel j oj cs b hoj) hy h1))
        obtain ⟨h4, h5, C', h6, h7, h8⟩ := h3
        refine ⟨h5, C', h6, h7, ih C' (listed.setIfInBounds j true) a' w' hfree' (ready_mono hr (Ne.symm hji)) (h4.sub h7) ?_⟩
        rw [Array.setIfInBounds_comm _ _ hji]
        exact h8

/-! ### The plan -/
def readsB (md : Region.Mode) (ops : Array Oper) : List Nat → Array Bool → Option (Array Bool)
  | [], l => some l
  | k :: R, l => if (Region.ready md ops l).contains k && Region.free md ops l k then readsB md ops R (l.setIfInBounds k true) else none
def planB (md : Region.Mode) (ops : Array Oper) (fin : List Nat) : List (List Nat × Nat) → Array Bool → Bool
  | [], l => match readsB md ops fin l with
    | some l' => decide (Region.ready md ops l' = [])
    | none => false
  | (R, s) :: rest, l => match readsB md ops R l with
    | some l' => decide (Region.ready md ops l' = [s]) && planB md ops fin rest (l'.setIfInBounds s true)
    | none => false
def planLen (fin : List Nat) : List (List Nat × Nat) → Nat
  | [] => fin.length
  | (R, _) :: rest => R.length + (1 + planLen fin rest)

def wpReads (P : Program) (ops : Array Oper) (C : World → Prop) (K : Act → Prop) : List Nat → Act → Prop
  | [], a => K a
  | k :: R, a => rdOp P ops C k (wpReads P ops C K R) a

def wpPlan (P : Program) (ops : Array Oper) (Q : Exit → Act → World → Prop) (fin : List Nat) : List (List Nat × Nat) → Nat → Act → World → Prop
  | [], B, a, w => wpReads P ops (Below B w) (fun a' => Q .normal a' w) fin a
  | (R, s) :: rest, B, a, w => wpReads P ops (Below B w) (fun a' => srOp P ops Q s (fun a'' w'' => Below B w w'' ∧ ∃ B', B ≤ B' ∧ wpPlan P ops Q fin rest B' a'' w'') a' w) R a

theorem reads_ok (hsel : Region.noSelect ops = true) {C : World → Prop} {w : World} {K : Act → Prop} {g : Nat} : ∀ (R : List Nat) (l l' : Array Bool) (a : Act), readsB md ops R l = some l' →
    (∀ a', K a' → wpAnyC P md ops Q C g l' a' w) → wpReads P ops C K R a → wpAnyC P md ops Q C (R.length + g) l a w
  | [], l, l', a, h, hk, hw => by
    simp only [readsB, Option.some.injEq] at h
    subst h
    simpa using hk a hw
  | k :: R, l, l', a, h, hk, hw => by
    simp only [readsB] at h
    split at h
    · rename_i hc
      simp only [Bool.and_eq_true] at hc
      obtain ⟨o, v, ho, hy, hK⟩ := hw
      have := wpAnyC_first (Q := Q) ho (Region.noSelect_spec hsel) (R.length + g) C l a w (Region.free_spec ho hc.2) (by simpa using hc.1) hy (reads_ok hsel R _ l' _ h hk hK)
      rw [List.length_cons, show R.length + 1 + g = R.length + g + 1 by omega]
      exact this
    · cases h

theorem plan_ok (hsel : Region.noSelect ops = true) (fin : List Nat) : ∀ (p : List (List Nat × Nat)) (B : Nat) (l : Array Bool) (a : Act) (w : World), planB md ops fin p l = true →
    wpPlan P ops Q fin p B a w → wpAnyC P md ops Q (Below B w) (planLen fin p) l a w
  | [], B, l, a, w, h, hw => by
    simp only [planB] at h
    split at h
    · rename_i l' hl
      have hr : Region.ready md ops l' = [] := by simpa using h
      exact reads_ok (g := 0) hsel fin l l' a hl (fun a' h' => ⟨hr, h'⟩) hw
    · cases h
  | (R, s) :: rest, B, l, a, w, h, hw => by
    simp only [planB] at h
    split at h
    · rename_i l' hl
      simp only [Bool.and_eq_true, decide_eq_true_eq] at h
      refine reads_ok (g := 1 + planLen fin rest) hsel R l l' a hl (fun a' h' => ?_) hw
      rw [Nat.add_comm]
      refine ⟨fun h0 => (by rw [h.1] at h0; cases h0), fun i hi => ?_⟩
      rw [h.1] at hi
      have his : i = s := by simpa using hi
      subst his
      refine .inr (sr_mono (fun a'' w'' h3 => ?_) h')
      obtain ⟨h4, B', h5, h6⟩ := h3
      exact ⟨h4, Below B' w'', Below.refl _ _, fun x hx => h4.trans (hx.mono h5), plan_ok hsel fin rest B' _ _ _ h.2 h6⟩
    · cases h

/-- THE REGION BY ITS PLAN. -/
theorem wp_plan {id : Nat} {a : Act} {w : World} {l : List Oper} (p : List (List Nat × Nat)) (fin : List Nat) (B : Nat) (hm : P.follows .mixedOrders = true)
    (hB : (Region.noSelect l.toArray && planB .any l.toArray fin p (Array.replicate l.toArray.size false) && decide (l.toArray.size = planLen fin p)) = true)
    (h : wpPlan P l.toArray Q fin p B a w.drew) : (Code.region id l.toArray true).wp P Q a w := by
  simp only [Bool.and_eq_true, decide_eq_true_eq] at hB
  refine wp_region_any hm ?_
  have h1 := wpAny_of_C (planLen fin p) (Below B w.drew) (Array.replicate l.toArray.size false) a w.drew (Below.refl _ _) (plan_ok hB.1.1 fin p B _ a _ hB.1.2 h)
  rw [← hB.2] at h1
  exact h1

/-! ### The steps -/
theorem reads_nil {C : World → Prop} {K : Act → Prop} {a : Act} (h : K a) : wpReads P ops C K [] a := h
theorem reads_step {C : World → Prop} {K : Act → Prop} {a : Act} {k : Nat} {R : List Nat} (o : Oper) (ho : ops[k]? = some o)
    (h : ∀ L : Act → Prop, (∀ a, wpReads P ops C K R a → L a) → if Region.wanted o (yielded ops a.tmps) = true then (∃ v, (∀ w, C w → readUpon w v ((execOp a.eval o).run P w)) ∧ L (a.put o.dst v)) else L (a.put o.dst undef)) :
    wpReads P ops C K (k :: R) a := by
  have h' := h _ (fun _ h => h)
  split at h'
  · rename_i hw
    obtain ⟨v, h1, h2⟩ := h'
    exact ⟨o, v, ho, .inl ⟨hw, h1⟩, h2⟩
  · rename_i hw
    exact ⟨o, undef, ho, .inr ⟨by simpa using hw, rfl⟩, h'⟩
/-- one read, in the worlds that are as w below B -/
theorem reads_step_below {B : Nat} {w : World} {K : Act → Prop} {a : Act} {k : Nat} {R : List Nat} (o : Oper) (ho : ops[k]? = some o)
    (h : ∀ L : Act → Prop, (∀ a, wpReads P ops (Below B w) K R a → L a) → if Region.wanted o (yielded ops a.tmps) = true then (∃ v, (∀ x, (∀ b off, b < B → x.cell? ⟨b, off, none⟩ = w.cell? ⟨b, off, none⟩) → readUpon x v ((execOp a.eval o).run P x)) ∧ L (a.put o.dst v)) else L (a.put o.dst undef)) :
    wpReads P ops (Below B w) K (k :: R) a :=
  reads_step o ho fun L hL => by
    have h' := h L hL
    split at h'
    · rename_i hw
      rw [if_pos hw]
      obtain ⟨v, h1, h2⟩ := h'
      exact ⟨v, fun x hx => h1 x (fun b off hb => hx.cell (p := ⟨b, off, none⟩) hb), h2⟩
    · rename_i hw
      rw [if_neg hw]
      exact h'
theorem ser_step {fin : List Nat} {rest : List (List Nat × Nat)} {B : Nat} {a : Act} {w w0 : World} {s : Nat} (o : Oper) (ho : ops[s]? = some o)
    (h : ∀ L : Act → World → Prop, (∀ a'' w'' B', Below B w0 w'' → B ≤ B' → wpPlan P ops Q fin rest B' a'' w'' → L a'' w'') → if Region.wanted o (yielded ops a.tmps) = true then o.wp P a w L (NP Q) else L (a.put o.dst undef) w) :
    srOp P ops Q s (fun a'' w'' => Below B w0 w'' ∧ ∃ B', B ≤ B' ∧ wpPlan P ops Q fin rest B' a'' w'') a w :=
  ⟨o, ho, h _ (fun _ _ B' h1 h2 h3 => ⟨h1, B', h2, h3⟩)⟩
end
end Go.Proofs.Ytcbjngndlofpfaa
