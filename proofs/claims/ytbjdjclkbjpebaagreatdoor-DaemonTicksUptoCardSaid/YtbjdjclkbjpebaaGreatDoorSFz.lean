/- The machine over data: an own variable, or an own row, that is zbb up to be shared: nobody writes to it from then on. -/
import Derived.Test.YtbjdjclkbjpebaaGreatDoorSMa4
namespace Go.Proofs.YtbjdjclkbjpebaaGreatDoor
open Go.RowKit Go.Sort
set_option linter.unusedVariables false
set_option linter.unusedSimpArgs false
def allP : List AV → Option (List PV)
 | [] => some []
 | .p x :: l => (allP l).map (x :: ·)
 | _ :: _ => none
theorem allP_map : ∀ {xs : List AV} {cs : List PV}, allP xs = some cs → xs = cs.map AV.p
 | [], cs, h => by simp only [allP, Option.some.injEq] at h; subst h; rfl
 | a :: xs, cs, h => by
  cases a with
  | p x =>
   simp only [allP] at h
   cases hq : allP xs with
   | none => simp [hq] at h
   | some zs =>
    simp only [hq, Option.map_some, Option.some.injEq] at h
    subst h
    simp [allP_map hq]
  | _ => simp [allP] at h
structure Fz where
 o : Nat
 P : Option (List PV)
 R : Option PV
 V : Option (List PV)
mutual
def fzA (f : Fz) : AV → AV
 | .p x => .p x
 | .agg cs => .agg (fzL f cs)
 | .tup cs => .tup (fzL f cs)
 | .ptr cs => .ptr cs
 | .ref o off => match f.P with
  | some cs => bif (Nat.beq o f.o && Nat.beq off 0) then .p (.pt cs) else .ref o off
  | none => match f.V with
   | some cs => bif Nat.beq o f.o then .ptr (cs.drop off) else .ref o off
   | none => .ref o off
 | .row o => match f.R with
  | some x => bif Nat.beq o f.o then .p x else .row o
  | none => .row o
 | .psl o off n size => .psl o off n size
 | .pslc o n => .pslc o n
 | .fn g cs => .fn g (fzL f cs)
 | .mb b x => .mb b (fzA f x)
 | .sat p => .sat p
 | .mp o => .mp o
 | .any => .any
def fzL (f : Fz) : List AV → List AV
 | [] => []
 | c :: cs => fzA f c :: fzL f cs
end
def fzS (f : Fz) : Slot → Slot
 | .live (.box ty cs) => .live (.box ty (fzL f cs))
 | .live (.rowA e size n c cs) => .live (.rowA e size n c (fzL f cs))
 | s => s
def St.fz (st : St) (f : Fz) : St := ⟨fun t => fzA f (st.tmps t), fun o => bif Nat.beq o f.o then .dead else fzS f (st.heap o)⟩
section
variable {S S' : Nat → Prop} {m : Nat → Option Value} {w : World} {f : Fz} {v0 : Value}
mutual
theorem fzA_rep (hs : ∀ b, S b → S' b) (hm : m f.o = some v0) (hP : ∀ cs b, f.P = some cs → blk v0 = some b → PRep S' w (.pt cs) (.pointer (some ⟨b, 0, none⟩))) (hR : ∀ x, f.R = some x → PRep S' w x v0) (hV : ∀ cs b, f.V = some cs → blk v0 = some b → PRep S' w (.pt cs) (.pointer (some ⟨b, 0, none⟩))) : ∀ (x : AV) (u : Value), Rep S m w x u → Rep S' m w (fzA f x) u
 | .p x, u, h => by simp only [fzA, Rep] at h ⊢; exact PRep.mono hs (fun _ _ => rfl) _ _ h
 | .agg cs, u, h => by
  simp only [fzA, Rep] at h ⊢
  obtain ⟨us, h1, h2, h3⟩ := h
  exact ⟨us, h1, zfN hs hm hP hR hV cs us h2, h3⟩
 | .tup cs, u, h => by
  simp only [fzA, Rep] at h ⊢
  obtain ⟨us, h1, h2⟩ := h
  exact ⟨us, h1, zfN hs hm hP hR hV cs us h2⟩
 | .ptr cs, u, h => by
  simp only [fzA, Rep] at h ⊢
  obtain ⟨b, off, vs, h1, h2, h3, h4⟩ := h
  exact ⟨b, off, vs, h1, hs b h2, PRepL.mono hs (fun _ _ => rfl) _ _ h3, h4⟩
 | .ref o off, u, h => by
  unfold fzA
  cases hq : f.P with
  | none =>
   simp only []
   cases hv : f.V with
   | none => simp only [Rep] at h ⊢; exact h
   | some cs =>
    simp only []
    cases hc : Nat.beq o f.o with
    | false => simp only [cond_false, Rep] at h ⊢; exact h
    | true =>
     have h1 : o = f.o := Nat.eq_of_beq_eq_true hc
     subst h1
     simp only [cond_true, Rep] at h ⊢
     obtain ⟨b, v1, h3, h4, rfl⟩ := h
     rw [hm] at h3
     obtain rfl := Option.some.inj h3
     have h5 := hV cs b hv h4
     simp only [PRep] at h5
     obtain ⟨b', o', vs, e1, e2, e3, e4⟩ := h5
     simp only [Value.pointer.injEq, Option.some.injEq, Addr.mk.injEq] at e1
     obtain ⟨rfl, rfl, _⟩ := e1
     refine ⟨b, off, vs.drop off, rfl, e2, e3.drop off, fun j v hj => ?_⟩
     rw [List.getElem?_drop] at hj
     have := e4 _ v hj
     rwa [Nat.zero_add] at this
  | some cs =>
   simp only []
   cases hc : (Nat.beq o f.o && Nat.beq off 0) with
   | false => simp only [cond_false, Rep] at h ⊢; exact h
   | true =>
    simp only [Bool.and_eq_true] at hc
    have h1 : o = f.o := Nat.eq_of_beq_eq_true hc.1
    have h2 : off = 0 := Nat.eq_of_beq_eq_true hc.2
    subst h1; subst h2
    simp only [cond_true, Rep] at h ⊢
    obtain ⟨b, v1, h3, h4, rfl⟩ := h
    rw [hm] at h3
    obtain rfl := Option.some.inj h3
    exact hP cs b hq h4
 | .row o, u, h => by
  unfold fzA
  cases hq : f.R with
  | none => simp only [Rep] at h ⊢; exact h
  | some x =>
   simp only []
   cases hc : Nat.beq o f.o with
   | false => simp only [cond_false, Rep] at h ⊢; exact h
   | true =>
    have h1 : o = f.o := Nat.eq_of_beq_eq_true hc
    subst h1
    simp only [cond_true, Rep] at h ⊢
    have h3 := h.1
    rw [hm] at h3
    obtain rfl := Option.some.inj h3
    exact hR x hq
 | .psl o off n sz, u, h => by simp only [fzA, Rep] at h ⊢; exact h
 | .pslc o n, u, h => by simp only [fzA, Rep] at h ⊢; exact h
 | .fn g cs, u, h => by
  simp only [fzA, Rep] at h ⊢
  obtain ⟨us, h1, h2⟩ := h
  exact ⟨us, h1, zfN hs hm hP hR hV cs us h2⟩
 | .mb b x, u, h => by
  simp only [fzA, Rep] at h ⊢
  exact ⟨fun hb => fzA_rep hs hm hP hR hV x u (h.1 hb), h.2⟩
 | .sat sp, u, h => by simpa only [fzA, Rep] using h
 | .mp o, u, h => by simp only [fzA, Rep] at h ⊢; exact h
 | .any, u, h => by simp only [fzA, Rep]
theorem zfN (hs : ∀ b, S b → S' b) (hm : m f.o = some v0) (hP : ∀ cs b, f.P = some cs → blk v0 = some b → PRep S' w (.pt cs) (.pointer (some ⟨b, 0, none⟩))) (hR : ∀ x, f.R = some x → PRep S' w x v0) (hV : ∀ cs b, f.V = some cs → blk v0 = some b → PRep S' w (.pt cs) (.pointer (some ⟨b, 0, none⟩))) : ∀ (x : List AV) (u : List Value), RepL S m w x u → RepL S' m w (fzL f x) u
 | [], u, h => by simpa [fzL, RepL] using h
 | c :: cs, u, h => by
  simp only [fzL, RepL] at h ⊢
  obtain ⟨u, us, h1, h2, h3⟩ := h
  exact ⟨u, us, h1, fzA_rep hs hm hP hR hV c u h2, zfN hs hm hP hR hV cs us h3⟩
end
end
theorem sim_fz {w0 : World} {A : Ctx} {nt : Nat} {st : St} {a : Act} {w : World} {f : Fz} {ob : AObj} (h : st.heap f.o = .live ob)
  (key : ∀ S m v, Mem w0 A.A S m st.heap w → m f.o = some v → ORep w0.heap.size S m w ob v → (∀ cs b, f.P = some cs → blk v = some b → PRep (fun x => S x ∨ blk v = some x) w (.pt cs) (.pointer (some ⟨b, 0, none⟩))) ∧ (∀ x, f.R = some x → PRep (fun x => S x ∨ blk v = some x) w x v) ∧ (∀ cs b, f.V = some cs → blk v = some b → PRep (fun x => S x ∨ blk v = some x) w (.pt cs) (.pointer (some ⟨b, 0, none⟩))))
  (hs : Sim w0 A nt st a w) : Sim w0 A nt (st.fz f) a w := by
 obtain ⟨⟨S, m, hm, hj, ht⟩, hsz, hd⟩ := hs
 obtain ⟨v, hv, hO, hnS⟩ := hm.live _ _ h
 obtain ⟨hP, hR, hV⟩ := key S m v hm hv hO
 have hss : ∀ b, S b → (fun x => S x ∨ blk v = some x) b := fun b hb => .inl hb
 have hlv : ∀ o s, (st.fz f).heap o = s → s ≠ .dead → o ≠ f.o ∧ s = fzS f (st.heap o) := fun o s ho hn => by
  have e : (bif Nat.beq o f.o then Slot.dead else fzS f (st.heap o)) = s := ho
  by_cases hoo : o = f.o
  ·subst hoo; simp only [Nat.beq_refl, cond_true] at e; exact absurd e.symm hn
  ·rw [nbeq hoo, cond_false] at e; exact ⟨hoo, e.symm⟩
 have hfl : ∀ s ob', fzS f s = .live ob' → ∃ ob, s = .live ob ∧ (ob' = ob ∨ (∃ ty cs, ob = .box ty cs ∧ ob' = .box ty (fzL f cs)) ∨ ∃ e size n c cs, ob = .rowA e size n c cs ∧ ob' = .rowA e size n c (fzL f cs)) := fun s ob' hq => by
  cases s with
  | un => cases hq
  | dead => cases hq
  | live ob =>
   cases ob with
   | box ty cs => simp only [fzS, Slot.live.injEq] at hq; exact ⟨_, rfl, .inr (.inl ⟨ty, cs, rfl, hq.symm⟩)⟩
   | rowA e size n c cs => simp only [fzS, Slot.live.injEq] at hq; exact ⟨_, rfl, .inr (.inr ⟨e, size, n, c, cs, rfl, hq.symm⟩)⟩
   | row e size n cs => simp only [fzS, Slot.live.injEq] at hq; exact ⟨_, rfl, .inl hq.symm⟩
   | map es => simp only [fzS, Slot.live.injEq] at hq; exact ⟨_, rfl, .inl hq.symm⟩
 have g : Grow S m w (fun x => S x ∨ blk v = some x) m w := ⟨hss, fun _ _ => rfl, fun _ _ h => h⟩
 refine ⟨⟨_, m, ⟨hm.bel, ?_, ?_, ?_, ?_, ?_, hm.gl⟩, A.up _ _ _ _ _ _ g hj, fun t => fzA_rep hss hv hP hR hV _ _ (ht t)⟩, hsz, hd⟩
 ·rintro b (hb | hb)
  ·exact hm.sA b hb
  ·exact .inr (hO.lt hb).1
 ·rintro b (hb | hb)
  ·exact hm.sW b hb
  ·exact (hO.lt hb).2
 ·intro o ho
  obtain ⟨_, h2⟩ := hlv o _ ho (by simp)
  refine hm.un o ?_
  cases hq : st.heap o with
  | un => rfl
  | dead => rw [hq] at h2; cases h2
  | live ob => rw [hq] at h2; cases ob <;> cases h2
 ·intro o ob' ho
  obtain ⟨h1, h2⟩ := hlv o _ ho (by simp)
  obtain ⟨ob1, h3, h4⟩ := hfl _ _ h2.symm
  obtain ⟨v1, g1, g2, g3⟩ := hm.live o ob1 h3
  refine ⟨v1, g1, ?_, ?_⟩
  ·rcases h4 with rfl | ⟨ty, cs, rfl, rfl⟩ | ⟨e, size, n, c, cs, rfl, rfl⟩
   ·exact ORep.mono g g2 fun _ _ => rfl
   rotate_left
   ·obtain ⟨us, q1, q2, q3⟩ := g2
    exact ⟨us, zfN hss hv hP hR hV _ _ q1, q2, q3⟩
   ·obtain ⟨b, us, q1, q2, q3, q4, q5⟩ := g2
    exact ⟨b, us, q1, q2, zfN hss hv hP hR hV _ _ q3, q4, q5⟩
  ·rintro b hb (hS | hS)
   ·exact g3 b hb hS
   ·exact h1 (hm.inj o f.o _ _ _ _ b h3 h g1 hv hb hS)
 ·intro o o' ob1 ob2 v1 v2 b ho ho' g1 g2 k1 k2
  obtain ⟨_, h2⟩ := hlv o _ ho (by simp)
  obtain ⟨ob3, h3, _⟩ := hfl _ _ h2.symm
  obtain ⟨_, h5⟩ := hlv o' _ ho' (by simp)
  obtain ⟨ob4, h6, _⟩ := hfl _ _ h5.symm
  exact hm.inj o o' _ _ _ _ b h3 h6 g1 g2 k1 k2
theorem zd7 {st : St} (o : Nat) {ty : TypeId} {xs : List AV} {cs : List PV} (h : st.heap o = .live (.box ty xs)) (ha : allP xs = some cs) : ReO st (st.fz ⟨o, some cs, none, none⟩) := by
 intro w0 A nt a w hs
 refine sim_fz h (fun S m v hm hv hO => ⟨fun cs' b e hb => ?_, fun x e => (by cases e), fun cs' b e hb => (by cases e)⟩) hs
 simp only [Option.some.injEq] at e
 subst e
 obtain ⟨b', us, rfl, h2, h3, h4, h5⟩ := hO
 obtain rfl : b' = b := by simpa [blk] using hb
 rw [allP_map ha] at h3
 simp only [PRep]
 exact ⟨b', 0, us, rfl, .inr rfl, PRepL.mono (fun _ h => .inl h) (fun _ _ => rfl) _ _ (zdC h3), zek h5⟩
theorem zc7 {st : St} (o : Nat) {e size n : Nat} {cs : List PV} (h : st.heap o = .live (.row e size n cs)) : ReO st (st.fz ⟨o, none, some (.sl n size cs), none⟩) := by
 intro w0 A nt a w hs
 refine sim_fz h (fun S m v hm hv hO => ⟨fun cs' b e hb => (by cases e), fun x e => ?_, fun cs' b e hb => (by cases e)⟩) hs
 simp only [Option.some.injEq] at e
 subst e
 obtain ⟨us, h1, h2⟩ := hO
 have hl := h1.length
 have hr2 := fun b hb => zcF h2 (b := b) hb
 simp only [PRep]
 rcases h2.2 with ⟨rfl, rfl⟩ | ⟨g, cap, cur, fz, rfl, _, hh, _, h8, h9, _, h10⟩
 ·exact ⟨none, 0, us, rfl, Nat.le_refl _, by rw [← hl, h2.1], PRepL.mono (fun _ h => .inl h) (fun _ _ => rfl) _ _ h1, .inl rfl⟩
 ·exact ⟨some ⟨g, 0, none⟩, cap, us, rfl, h8, by rw [← hl, h2.1], PRepL.mono (fun _ h => .inl h) (fun _ _ => rfl) _ _ h1, .inr ⟨g, 0, rfl, .inr rfl, hr2 g rfl⟩⟩
theorem zhg {P : Program} {w0 : World} {A : Ctx1} {nt : Nat} {id : Nat} {c d : Code} {Q : Exit → St → Prop} {st : St} (st1 : St) (h : awp ⟨P, w0, ctx0 A, nt⟩ c (InB id (Thn (fun st' => Re st' st1) Q)) st) (k : awp ⟨P, w0, ctx0 A, nt⟩ d Q st1) : awp ⟨P, w0, ctx0 A, nt⟩ c (InB id (Thn (awp ⟨P, w0, ctx0 A, nt⟩ d Q) Q)) st :=
 zfv h fun e st' he => by
  cases e with
  | normal => exact za8 he k
  | exit j =>
   simp only [InB] at he ⊢
   split at he
   ·rename_i hj; rw [if_pos hj]; exact za8 he k
   ·rename_i hj; rw [if_neg hj]; exact he
  | _ => exact he
theorem zfA {G : Env} {c : Code} {Q : Exit → St → Prop} {st st' : St} (r : ReO st st') (h : awp G c Q st') : Thn (awp G c Q) Q .normal st := za2 r h
end Go.Proofs.YtbjdjclkbjpebaaGreatDoor
