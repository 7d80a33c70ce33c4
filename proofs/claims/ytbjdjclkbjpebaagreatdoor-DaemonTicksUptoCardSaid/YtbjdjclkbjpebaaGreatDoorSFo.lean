/- Letters: are two rows of them the same? law.sameLetters, over data. -/
import Derived.Test.YtbjdjclkbjpebaaGreatDoorSEq3
import Derived.Test.YtbjdjclkbjpebaaGreatDoorSMa4
import Derived.Test.YtbjdjclkbjpebaaGreatDoorSFz
import Derived.Lib.Overlaps
import Derived.Lib.AppendZerosOnto
namespace Go.Proofs.YtbjdjclkbjpebaaGreatDoor
open Tryz
open Go.RowKit Go.Sort
set_option linter.unusedVariables false
set_option linter.unusedSimpArgs false
set_option maxRecDepth 100000
structure LR where
 f : ByteArray
 t : ByteArray
 xs : List Int
def LR.cells (l : LR) : List AV := [.p (.v (.string l.f)), .p (.v (.string l.t)), .p (.sl l.xs.length 1 (bs l.xs))]
def LR.pv (l : LR) : List PV := [.v (.string l.f), .v (.string l.t), .sl l.xs.length 1 (bs l.xs)]
noncomputable def lrB (x y : LR) : Bool := (decide (x.f = y.f) && decide (x.t = y.t)) && decide (strOfNums x.xs = strOfNums y.xs)
theorem lrB_T {x y : LR} (h : x = y) : lrB x y = true := by
 subst h
 unfold lrB
 simp
theorem lrB_F {x y : LR} (hx : isB x.xs) (hy : isB y.xs) (h : x ≠ y) : lrB x y = false := by
 cases hq : lrB x y with
 | false => rfl
 | true =>
  exfalso
  obtain ⟨a, b, xs⟩ := x
  obtain ⟨c, d, ys⟩ := y
  unfold lrB at hq
  simp at hq
  obtain ⟨⟨h1, h2⟩, h3⟩ := hq
  have h4 := zie hx hy h3
  dsimp only at h4
  exact h (by rw [h1, h2, h4])
theorem lr_d (x y : LR) : Fn prog 21 [.agg x.cells, .agg y.cells] (.p (.v (.bool (lrB x y)))) [] := by
 obtain ⟨a1, b1, x1⟩ := x
 obtain ⟨a2, b2, x2⟩ := y
 have hS := same_s x1.length x2.length x1 x2
 show Fn prog _ [.agg [.p (.v (.string a1)), .p (.v (.string b1)), .p (.sl x1.length 1 (bs x1))], .agg [.p (.v (.string a2)), .p (.v (.string b2)), .p (.sl x2.length 1 (bs x2))]] (.p (.v (.bool ((decide (a1 = a2) && decide (b1 = b2)) && decide (strOfNums x1 = strOfNums x2))))) _
 exact ja7
theorem lrs_d (l m : List LR) (hl : l.length ≤ 4611686018427387904) (hm : m.length ≤ 4611686018427387904) (okl : ∀ p ∈ l, isB p.xs) (okm : ∀ p ∈ m, isB p.xs) : Fn prog 20 [.p (.sl l.length 3 (l.flatMap LR.pv)), .p (.sl m.length 3 (m.flatMap LR.pv)), .fn 21 []] (.p (.v (.bool (eqB l m)))) [] := by
 by_cases hlen : l.length = m.length
 rotate_left
 ·rw [ze3 (fun e => hlen (by rw [e]))]
  generalize l.flatMap LR.pv = L
  generalize m.flatMap LR.pv = M
  exact jay
 obtain ⟨E, hE⟩ : ∃ E, eqB l m = E := ⟨_, rfl⟩
 rw [hE]
 refine fnI fun w0 A => ?_
 refine G [11, 3, 11] ?_
 refine zag (fun u st => ∃ i : Nat, u + i = l.length ∧ (∀ j, j < i → l[j]? = m[j]?) ∧ st = St.of [(1, .p (.sl m.length 3 (m.flatMap LR.pv))), (2, .fn 21 []), (15, .p (.sl l.length 3 (l.flatMap LR.pv))), (16, .p (.v (.int .i64 l.length))), (17, .p (.v (.int .i64 i)))] []) l.length ?_ ?_
 ·exact jas
 rintro u st ⟨i, hi, hf, rfl⟩
 refine G [5] ?_
 refine cX (fun h => ?_) fun h => ?_
 ·have hlt : i < l.length := by simp at h; omega
  clear h
  obtain ⟨x, hx⟩ : ∃ x, l[i]? = some x := ⟨l[i], List.getElem?_eq_getElem hlt⟩
  obtain ⟨y, hy⟩ : ∃ y, m[i]? = some y := ⟨m[i]'(by omega), List.getElem?_eq_getElem (by omega)⟩
  have hch := zar (f := LR.pv) (k := 3) (fun _ => rfl) hx
  have hle := zas (f := LR.pv) (k := 3) (fun _ => rfl) hlt
  have hch2 := zar (f := LR.pv) (k := 3) (fun _ => rfl) hy
  have hle2 := zas (f := LR.pv) (k := 3) (fun _ => rfl) (show i < m.length by omega)
  have hbad := zfW hx hy
  have hxy : x = y → l[i]? = m[i]? := fun e => by rw [hx, hy, e]
  have hxm := List.mem_of_getElem? hx
  have hym := List.mem_of_getElem? hy
  have hC := lr_d x y
  generalize l.flatMap LR.pv = L at *
  generalize m.flatMap LR.pv = M at *
  refine G [10] ?_
  refine jdA (zaf (Y := .agg x.cells) sz64 rfl rfl (Nat.eq_of_beq_eq_true rfl)) ?_
  refine G [8] ?_
  refine jdA (zaf (Y := .agg y.cells) sz64 rfl rfl (Nat.eq_of_beq_eq_true rfl)) ?_
  refine zac ?_
  by_cases he : x = y
  ·rw [lrB_T he] at hC
   refine G [3] ?_
   refine jdn ?_
   refine jdo ?_
   exact jbk
  ·rw [ze3 (hbad he)] at hE
   subst hE
   rw [lrB_F (okl x hxm) (okm y hym) he] at hC
   refine G [3] ?_
   refine jdn ?_
   refine jdo ?_
   exact jaK
 have hge : i = l.length := by simp at h; omega
 clear h
 subst hge
 rw [zhu (zfX hlen hf)] at hE
 subst hE
 refine jcs ?_
 exact yE
theorem sameLetters_d (l m : List LR) (hl : l.length ≤ 4611686018427387904) (hm : m.length ≤ 4611686018427387904) (okl : ∀ p ∈ l, isB p.xs) (okm : ∀ p ∈ m, isB p.xs) : Fn prog 7 [.p (.sl l.length 3 (l.flatMap LR.pv)), .p (.sl m.length 3 (m.flatMap LR.pv))] (.p (.v (.bool (eqB l m)))) [] := by
 have hC := lrs_d l m hl hm okl okm
 clear hl hm okl okm
 generalize eqB l m = bn at *
 generalize l.flatMap LR.pv = L at *
 generalize l.length = N at *
 generalize m.flatMap LR.pv = L' at *
 generalize m.length = N' at *
 exact jbb
end Go.Proofs.YtbjdjclkbjpebaaGreatDoor
namespace Go.Proofs.YtbjdjclkbjpebaaGreatDoor
open Go.RowKit Go.Sort
set_option linter.unusedVariables false
set_option linter.unusedSimpArgs false
set_option maxRecDepth 100000
section
variable {w0 : World} {A S : Nat → Prop} {m : Nat → Option Value} {heap : Nat → Slot} {w w' : World}
end
section
variable {P : Program} {d : Option Tmp} {ty : TypeId} {pos : String} {af : Array Edge} {g : Option (Nat × Bool)}
end
section
variable {P : Program} {d : Option Tmp} {ty : TypeId} {pos : String} {af : Array Edge} {g : Option (Nat × Bool)}
end
def vs (us : List Value) : List PV := us.map PV.v
section
variable {w0 : World} {A S : Nat → Prop} {m : Nat → Option Value} {heap : Nat → Slot} {w w' : World}
end
section
variable {P : Program} {d : Option Tmp} {ty : TypeId} {pos : String} {af : Array Edge} {g : Option (Nat × Bool)} {x : Operand} {args : Array Operand} {ts : Array TypeId} {f : FuncId} {fn : Func}
end
inductive CellV (fam : List (Nat × Slot)) : List AV → List PV → Prop
 | nil : CellV fam [] []
 | p (x : PV) (cs : List AV) (ps : List PV) : CellV fam cs ps → CellV fam (.p x :: cs) (x :: ps)
 | row (o : Nat) (e size n : Nat) (qs : List PV) (cs : List AV) (ps : List PV) : (o, Slot.live (.row e size n qs)) ∈ fam → CellV fam cs ps → CellV fam (.row o :: cs) (.sl n size qs :: ps)
theorem CellV.append {fam : List (Nat × Slot)} {cs ds : List AV} {ps qs : List PV} (h : CellV fam cs ps) (k : CellV fam ds qs) : CellV fam (cs ++ ds) (ps ++ qs) := by
 induction h with
 | nil => exact k
 | p x cs ps _ ih => exact .p x _ _ ih
 | row o e size n q cs ps h1 _ ih => exact .row o e size n q _ _ h1 ih
theorem CellV.mono {fam fam' : List (Nat × Slot)} (hs : ∀ p ∈ fam, p ∈ fam') {cs : List AV} {ps : List PV} (h : CellV fam cs ps) : CellV fam' cs ps := by
 induction h with
 | nil => exact .nil
 | p x cs ps _ ih => exact .p x _ _ ih
 | row o e size n q cs ps h1 _ ih => exact .row o e size n q _ _ (hs _ h1) ih
section
variable {w0 : World} {A S T : Nat → Prop} {m : Nat → Option Value} {heap : Nat → Slot} {w : World} {fam : List (Nat × Slot)}
theorem row_rep (hm : Mem w0 A S m heap w) (hS : ∀ b, S b → T b) {o e size n : Nat} {qs : List PV} (ho : heap o = .live (.row e size n qs)) (hT : ∀ v b, m o = some v → blk v = some b → T b) {u : Value} (hr : m o = some u) : PRep T w (.sl n size qs) u := by
 obtain ⟨v, h1, ⟨us, h2, h3⟩, _⟩ := hm.live o _ ho
 rw [hr] at h1
 obtain rfl := Option.some.inj h1
 have hl := h2.length
 have hr2 := fun b hb => zcF h3 (b := b) hb
 simp only [PRep]
 rcases h3.2 with ⟨rfl, rfl⟩ | ⟨g, cap, cur, fz, rfl, _, hh, _, h8, h9, _, h10⟩
 ·exact ⟨none, 0, us, rfl, Nat.le_refl _, by rw [← hl, h3.1], PRepL.mono hS (fun _ _ => rfl) _ _ h2, .inl rfl⟩
 ·exact ⟨some ⟨g, 0, none⟩, cap, us, rfl, h8, by rw [← hl, h3.1], PRepL.mono hS (fun _ _ => rfl) _ _ h2, .inr ⟨g, 0, rfl, hT _ g hr rfl, hr2 g rfl⟩⟩
end
section
variable {P : Program} {d : Option Tmp} {ty : TypeId} {pos : String} {af : Array Edge} {g : Option (Nat × Bool)} {x : Operand} {args : Array Operand} {ts : Array TypeId} {f : FuncId} {fn : Func}
end
mutual
def AV.free (N : List Nat) : AV → Bool
 | .ref o _ => !N.elem o
 | .row o => !N.elem o
 | .psl o _ _ _ => !N.elem o
 | .pslc o _ => !N.elem o
 | .mp o => !N.elem o
 | .agg cs => AV.freeL N cs
 | .tup cs => AV.freeL N cs
 | .fn _ cs => AV.freeL N cs
 | .mb _ x => AV.free N x
 | .p _ => true
 | .ptr _ => true
 | .sat _ => true
 | .any => true
def AV.freeL (N : List Nat) : List AV → Bool
 | [] => true
 | c :: cs => AV.free N c && AV.freeL N cs
end
def AObj.free (N : List Nat) : AObj → Bool
 | .box _ cs => AV.freeL N cs
 | .rowA _ _ _ _ cs => AV.freeL N cs
 | _ => true
def Slot.free (N : List Nat) : Slot → Bool
 | .live ob => ob.free N
 | _ => true
def cutN (N : List Nat) (m : Nat → Option Value) (o : Nat) : Option Value := bif N.elem o then none else m o
section
variable {S S' : Nat → Prop} {m m' : Nat → Option Value} {w w' : World} {N : List Nat}
theorem zds {o : Nat} (h : (!N.elem o) = true) : cutN N m o = m o := by
 unfold cutN
 rw [Bool.not_eq_true'] at h
 rw [h]; rfl
theorem zha {o : Nat} {v : Value} (hN : ∀ n, N.elem n = true → m n = none) (h : m o = some v) (m' : Nat → Option Value) : cutN N m' o = m' o := by
 cases hq : N.elem o with
 | true => rw [hN o hq] at h; cases h
 | false => exact zds (by rw [hq]; rfl)
mutual
theorem rep_cut : ∀ (x : AV) (u : Value), x.free N = true → Rep S m w x u → Rep S (cutN N m) w x u
 | .p x, u, _, h => by simp only [Rep] at h ⊢; exact h
 | .agg cs, u, f, h => by
  simp only [Rep] at h ⊢
  obtain ⟨us, rfl, h1, h2⟩ := h
  exact ⟨us, rfl, zer cs us (by simpa only [AV.free] using f) h1, h2⟩
 | .tup cs, u, f, h => by
  simp only [Rep] at h ⊢
  obtain ⟨us, rfl, h1⟩ := h
  exact ⟨us, rfl, zer cs us (by simpa only [AV.free] using f) h1⟩
 | .fn g cs, u, f, h => by
  simp only [Rep] at h ⊢
  obtain ⟨us, rfl, h1⟩ := h
  exact ⟨us, rfl, zer cs us (by simpa only [AV.free] using f) h1⟩
 | .ptr _, u, _, h => by simp only [Rep] at h ⊢; exact h
 | .ref o _, u, f, h => by simp only [AV.free] at f; simp only [Rep] at h ⊢; rw [zds f]; exact h
 | .row o, u, f, h => by simp only [AV.free] at f; simp only [Rep] at h ⊢; rw [zds f]; exact h
 | .psl o _ _ _, u, f, h => by simp only [AV.free] at f; simp only [Rep] at h ⊢; rw [zds f]; exact h
 | .pslc o _, u, f, h => by simp only [AV.free] at f; simp only [Rep] at h ⊢; rw [zds f]; exact h
 | .mp o, u, f, h => by simp only [AV.free] at f; simp only [Rep] at h ⊢; rw [zds f]; exact h
 | .mb b x, u, f, h => by
  simp only [Rep] at h ⊢
  exact ⟨fun hb => rep_cut x u (by simpa only [AV.free] using f) (h.1 hb), h.2⟩
 | .sat _, u, _, h => by simp only [Rep] at h ⊢; exact h
 | .any, u, _, h => by simp only [Rep]
theorem zer : ∀ (l : List AV) (us : List Value), AV.freeL N l = true → RepL S m w l us → RepL S (cutN N m) w l us
 | [], us, _, h => by simpa only [RepL] using h
 | c :: cs, us, f, h => by
  simp only [AV.freeL, Bool.and_eq_true] at f
  simp only [RepL] at h ⊢
  obtain ⟨u, us, rfl, h1, h2⟩ := h
  exact ⟨u, us, rfl, rep_cut c u f.1 h1, zer cs us f.2 h2⟩
end
mutual
theorem rep_cut2 (hN : ∀ n, N.elem n = true → m n = none) : ∀ (x : AV) (u v : Value), Rep S m w x v → Rep S' m' w' x u → Rep S' (cutN N m') w' x u
 | .p x, u, v, _, h => by simp only [Rep] at h ⊢; exact h
 | .agg cs, u, v, k, h => by
  simp only [Rep] at h k ⊢
  obtain ⟨us, rfl, h1, h2⟩ := h
  obtain ⟨vs, _, k1, _⟩ := k
  exact ⟨us, rfl, zdD hN cs us vs k1 h1, h2⟩
 | .tup cs, u, v, k, h => by
  simp only [Rep] at h k ⊢
  obtain ⟨us, rfl, h1⟩ := h
  obtain ⟨vs, _, k1⟩ := k
  exact ⟨us, rfl, zdD hN cs us vs k1 h1⟩
 | .fn g cs, u, v, k, h => by
  simp only [Rep] at h k ⊢
  obtain ⟨us, rfl, h1⟩ := h
  obtain ⟨vs, _, k1⟩ := k
  exact ⟨us, rfl, zdD hN cs us vs k1 h1⟩
 | .ptr _, u, v, _, h => by simp only [Rep] at h ⊢; exact h
 | .ref o _, u, v, k, h => by
  simp only [Rep] at h k ⊢
  obtain ⟨_, _, k1, _⟩ := k
  rw [zha hN k1]; exact h
 | .row o, u, v, k, h => by
  simp only [Rep] at h k ⊢
  rw [zha hN k.1]; exact h
 | .psl o _ n _, u, v, k, h => by
  simp only [Rep] at h k ⊢
  obtain ⟨a, cap, rfl, h1, h2⟩ := h
  obtain ⟨_, _, _, _, k2⟩ := k
  rcases k2 with k2 | ⟨_, _, k2, _⟩
  ·exact ⟨a, cap, rfl, h1, .inl k2⟩
  ·exact ⟨a, cap, rfl, h1, by rw [zha hN k2]; exact h2⟩
 | .pslc o _, u, v, k, h => by
  simp only [Rep] at h k ⊢
  obtain ⟨_, _, _, k1, _⟩ := k
  rw [zha hN k1]; exact h
 | .mp o, u, v, k, h => by
  simp only [Rep] at h k ⊢
  rw [zha hN k.1]; exact h
 | .mb b x, u, v, k, h => by
  simp only [Rep] at h k ⊢
  exact ⟨fun hb => rep_cut2 hN x u v (k.1 hb) (h.1 hb), h.2⟩
 | .sat _, u, v, _, h => by simp only [Rep] at h ⊢; exact h
 | .any, u, v, _, h => by simp only [Rep]
theorem zdD (hN : ∀ n, N.elem n = true → m n = none) : ∀ (l : List AV) (us vs : List Value), RepL S m w l vs → RepL S' m' w' l us → RepL S' (cutN N m') w' l us
 | [], us, _, _, h => by simpa only [RepL] using h
 | c :: cs, us, vs, k, h => by
  simp only [RepL] at h k ⊢
  obtain ⟨u, us, rfl, h1, h2⟩ := h
  obtain ⟨v, vs, rfl, k1, k2⟩ := k
  exact ⟨u, us, rfl, rep_cut2 hN c u v k1 h1, zdD hN cs us vs k2 h2⟩
end
theorem orep_cut {B : Nat} : ∀ {ob : AObj} {v : Value}, ob.free N = true → ORep B S m w ob v → ORep B S (cutN N m) w ob v
 | .box _ cs, v, f, ⟨b, us, h1, h2, h3, h4⟩ => ⟨b, us, h1, h2, zer cs us f h3, h4⟩
 | .row _ _ _ _, v, _, h => h
 | .map _, v, _, h => h
 | .rowA _ _ _ _ cs, v, f, ⟨us, h1, h2⟩ => ⟨us, zer cs us f h1, h2⟩
theorem orep_cut2 (hN : ∀ n, N.elem n = true → m n = none) {B B' : Nat} : ∀ {ob : AObj} {u v : Value}, ORep B S m w ob u → ORep B' S' m' w' ob v → ORep B' S' (cutN N m') w' ob v
 | .box _ cs, u, v, ⟨_, vs, _, _, k, _⟩, ⟨b, us, h1, h2, h3, h4⟩ => ⟨b, us, h1, h2, zdD hN cs us vs k h3, h4⟩
 | .row _ _ _ _, u, v, _, h => h
 | .map _, u, v, _, h => h
 | .rowA _ _ _ _ cs, u, v, ⟨vs, k, _⟩, ⟨us, h1, h2⟩ => ⟨us, zdD hN cs us vs k h1, h2⟩
end
theorem zdN {heap : Nat → Slot} (q : Nat → Bool) : ∀ (l : List (Nat × Slot)) (o : Nat), updL heap (l.filter fun p => q p.1) o = bif q o then updL heap l o else heap o
 | [], o => by cases q o <;> rfl
 | (n, s) :: l, o => by
  by_cases e : o = n
  ·subst e
   cases hq : q o with
   | true => simp [List.filter_cons, hq, updL]
   | false => simp only [List.filter_cons, hq, Bool.false_eq_true, if_false, cond_false]; rw [zdN q l o, hq]; rfl
  ·have hb : Nat.beq o n = false := nbeq e
   cases hn : q n with
   | true => simp only [List.filter_cons, hn, if_true, updL, hb, cond_false]; exact zdN q l o
   | false => simp only [List.filter_cons, hn, Bool.false_eq_true, if_false, updL, hb, cond_false]; exact zdN q l o
theorem zhx {heap : Nat → Slot} {s : Slot} : ∀ {l : List (Nat × Slot)} {o : Nat}, updL heap l o = s → (o, s) ∈ l ∨ heap o = s
 | [], o, h => .inr h
 | (n, t) :: l, o, h => by
  by_cases e : o = n
  ·subst e
   simp only [updL, Nat.beq_refl, cond_true] at h
   exact .inl (by simp [h])
  ·simp only [updL, nbeq e, cond_false] at h
   rcases zhx h with h | h
   ·exact .inl (List.mem_cons_of_mem _ h)
   ·exact .inr h
def Slot.isUn : Slot → Bool
 | .un => true
 | _ => false
theorem zgl {P : Program} {f : FuncId} {args : List AV} {rds wrs wrs' : List (Nat × Slot)} {res : AV} (N : List Nat) (h : FnO P f args rds wrs res) (hN : N.all (fun n => rds.any fun p => Nat.beq p.1 n && p.2.isUn) = true) (hw : (wrs.filter fun p => !N.elem p.1) = wrs') (hf : wrs'.all (fun p => p.2.free N) = true) (hr : res.free N = true) :
  FnO P f args rds wrs' res := by
 intro w0 A S m heap w us hm hu hrd
 have hNu : ∀ n, N.elem n = true → heap n = .un := by
  intro n hn
  have h1 := List.all_eq_true.1 hN n (by simpa using hn)
  obtain ⟨p, hp, h2⟩ := List.any_eq_true.1 h1
  rw [Bool.and_eq_true] at h2
  have e : p.1 = n := Nat.eq_of_beq_eq_true h2.1
  have h3 := hrd p hp
  rw [e] at h3
  rw [h3]
  cases hs : p.2 with
  | un => rfl
  | _ => rw [hs] at h2; simp [Slot.isUn] at h2
 have hNm : ∀ n, N.elem n = true → m n = none := fun n hn => hm.un n (hNu n hn)
 have hup : ∀ o, updL heap wrs' o = bif !N.elem o then updL heap wrs o else heap o := by
  intro o; rw [← hw]; exact zdN (fun n => !N.elem n) wrs o
 have hupF : ∀ o, (!N.elem o) = true → updL heap wrs' o = updL heap wrs o := fun o ho => by rw [hup, ho]; rfl
 have hupN : ∀ o, N.elem o = true → updL heap wrs' o = .un := fun o ho => by rw [hup, ho]; exact hNu o ho
 have hlv : ∀ o ob, updL heap wrs' o = .live ob → (!N.elem o) = true := by
  intro o ob ho
  cases hq : N.elem o with
  | false => rfl
  | true => rw [hupN o hq] at ho; cases ho
 refine (h w0 A S m heap w us hm hu hrd).mono fun e w' ⟨v, he, S', m', h1, h2, h3⟩ => ⟨v, he, S', cutN N m', rep_cut _ _ hr h1, ?_, ⟨h3.s, h3.w, fun o v ho => by rw [zha hNm ho]; exact h3.m o v ho⟩⟩
 refine ⟨h2.bel, h2.sA, h2.sW, ?_, ?_, ?_, h2.gl⟩
 ·intro o ho
  cases hq : N.elem o with
  | true => unfold cutN; rw [hq]; rfl
  | false =>
   have hn : (!N.elem o) = true := by rw [hq]; rfl
   rw [zds hn]
   exact h2.un o (by rw [← hupF o hn]; exact ho)
 ·intro o ob ho
  have hn := hlv o ob ho
  have ho' := ho
  rw [hupF o hn] at ho'
  obtain ⟨v, k1, k2, k3⟩ := h2.live o ob ho'
  refine ⟨v, by rw [zds hn]; exact k1, ?_, k3⟩
  rcases zhx ho with hm1 | hm1
  ·exact orep_cut (by have := List.all_eq_true.1 hf _ hm1; simpa [Slot.free] using this) k2
  ·obtain ⟨v0, _, j2, _⟩ := hm.live o ob hm1
   exact orep_cut2 hNm j2 k2
 ·intro o o' ob ob' v v' b ho ho' hv hv' hb hb'
  have hn := hlv o ob ho
  have hn' := hlv o' ob' ho'
  rw [hupF o hn] at ho
  rw [hupF o' hn'] at ho'
  rw [zds hn] at hv
  rw [zds hn'] at hv'
  exact h2.inj o o' ob ob' v v' b ho ho' hv hv' hb hb'
end Go.Proofs.YtbjdjclkbjpebaaGreatDoor
