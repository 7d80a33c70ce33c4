/- Results whose own rows are seen as plain data. -/
import Derived.Test.YtbjdjclkbjpebaaGreatDoorSFo
import Derived.Test.YtbjdjclkbjpebaaGreatDoorSSq
namespace Go.Proofs.YtbjdjclkbjpebaaGreatDoor
open Go.RowKit Go.Sort
set_option linter.unusedVariables false
set_option linter.unusedSimpArgs false
set_option maxRecDepth 100000
mutual
def AV.fz (h : Nat → Slot) : AV → AV
 | .row o => match h o with
  | .live (.row _ size n cs) => .p (.sl n size cs)
  | _ => .row o
 | .agg cs => .agg (AV.fzL h cs)
 | .tup cs => .tup (AV.fzL h cs)
 | x => x
def AV.fzL (h : Nat → Slot) : List AV → List AV
 | [] => []
 | c :: cs => AV.fz h c :: AV.fzL h cs
end
mutual
def AV.fzOK (h : Nat → Slot) : AV → Bool
 | .p _ => true
 | .row o => match h o with
  | .live (.row _ _ _ _) => true
  | _ => false
 | .agg cs => AV.fzOKL h cs
 | .tup cs => AV.fzOKL h cs
 | _ => false
def AV.fzOKL (h : Nat → Slot) : List AV → Bool
 | [] => true
 | c :: cs => AV.fzOK h c && AV.fzOKL h cs
end
section
variable {w0 : World} {A S T : Nat → Prop} {m : Nat → Option Value} {heap : Nat → Slot} {w : World}
mutual
theorem rep_fz (hm : Mem w0 A S m heap w) (hS : ∀ b, S b → T b) (hT : ∀ o e size n cs v b, heap o = .live (.row e size n cs) → m o = some v → blk v = some b → T b) : ∀ (x : AV) (u : Value), x.fzOK heap = true → Rep S m w x u → Rep T (fun _ => none) w (x.fz heap) u
 | .p x, u, _, h => by
  simp only [AV.fz, Rep] at h ⊢
  exact PRep.mono hS (fun _ _ => rfl) _ _ h
 | .row o, u, ok, h => by
  simp only [AV.fzOK] at ok
  simp only [Rep] at h
  cases hq : heap o with
  | live ob =>
   cases ob with
   | row e size n cs =>
    simp only [AV.fz, hq, Rep]
    exact row_rep hm hS hq (fun v b hv hb => hT _ _ _ _ _ v b hq hv hb) h.1
   | _ => simp [hq] at ok
  | _ => simp [hq] at ok
 | .agg cs, u, ok, h => by
  simp only [AV.fzOK] at ok
  simp only [Rep] at h
  obtain ⟨us, rfl, h1, h2⟩ := h
  simp only [AV.fz, Rep]
  exact ⟨us, rfl, repL_fz hm hS hT cs us ok h1, h2⟩
 | .tup cs, u, ok, h => by
  simp only [AV.fzOK] at ok
  simp only [Rep] at h
  obtain ⟨us, rfl, h1⟩ := h
  simp only [AV.fz, Rep]
  exact ⟨us, rfl, repL_fz hm hS hT cs us ok h1⟩
 | .ptr _, _, ok, _ => by simp [AV.fzOK] at ok
 | .ref _ _, _, ok, _ => by simp [AV.fzOK] at ok
 | .psl _ _ _ _, _, ok, _ => by simp [AV.fzOK] at ok
 | .pslc _ _, _, ok, _ => by simp [AV.fzOK] at ok
 | .fn _ _, _, ok, _ => by simp [AV.fzOK] at ok
 | .mb _ _, _, ok, _ => by simp [AV.fzOK] at ok
 | .sat _, _, ok, _ => by simp [AV.fzOK] at ok
 | .mp _, _, ok, _ => by simp [AV.fzOK] at ok
 | .any, _, ok, _ => by simp [AV.fzOK] at ok
theorem repL_fz (hm : Mem w0 A S m heap w) (hS : ∀ b, S b → T b) (hT : ∀ o e size n cs v b, heap o = .live (.row e size n cs) → m o = some v → blk v = some b → T b) : ∀ (l : List AV) (us : List Value), AV.fzOKL heap l = true → RepL S m w l us → RepL T (fun _ => none) w (AV.fzL heap l) us
 | [], us, _, h => by simpa only [AV.fzL, RepL] using h
 | c :: cs, us, ok, h => by
  simp only [AV.fzOKL, Bool.and_eq_true] at ok
  simp only [RepL] at h
  obtain ⟨u, us, rfl, h1, h2⟩ := h
  simp only [AV.fzL, RepL]
  exact ⟨u, us, rfl, rep_fz hm hS hT c u ok.1 h1, repL_fz hm hS hT cs us ok.2 h2⟩
end
end
theorem fn_fz {P : Program} {f : FuncId} {args : List AV} {res res' : AV} {news : List (Nat × AObj)} (h : Fn P f args res news) (hr : res.fz (zcx news) = res') (ok : res.fzOK (zcx news) = true) : Fn P f args res' [] := by
 intro w A us hA hG hu
 subst hr
 refine (h w A us hA hG hu).mono fun en w' ⟨v, he, S', m', h1, h2⟩ => ⟨v, he, fun b => S' b ∨ ∃ o e size n cs v0, zcx news o = .live (.row e size n cs) ∧ m' o = some v0 ∧ blk v0 = some b, fun _ => none, ?_, ?_⟩
 ·exact rep_fz h2 (fun b hb => .inl hb) (fun o e size n cs v b ho hv hb => .inr ⟨o, e, size, n, cs, v, ho, hv, hb⟩) _ _ ok h1
 ·refine ⟨h2.bel, ?_, ?_, fun o _ => rfl, fun o ob ho => (by cases ho), fun o o' ob ob' v v' b ho => (by cases ho), h2.gl⟩
  ·rintro b (hb | ⟨o, e, size, n, cs, v0, h0, h3, h4⟩)
   ·exact h2.sA b hb
   ·obtain ⟨v', k1, k2, _⟩ := h2.live o _ h0
    rw [h3] at k1; cases k1
    exact .inr (k2.lt h4).1
  ·rintro b (hb | ⟨o, e, size, n, cs, v0, h0, h3, h4⟩)
   ·exact h2.sW b hb
   ·obtain ⟨v', k1, k2, _⟩ := h2.live o _ h0
    rw [h3] at k1; cases k1
    exact (k2.lt h4).2
def nzP (x y : AV) : Prop := x = y ∨ ∃ k, x = .p (.v (.slice none 0 0)) ∧ y = .p (.sl 0 k [])
def nzL : List AV → List AV → Prop
 | [], [] => True
 | x :: l, y :: r => nzP x y ∧ nzL l r
 | _, _ => False
def nzA (x y : AV) : Prop := nzP x y ∨ ∃ l r, x = .agg l ∧ y = .agg r ∧ nzL l r
def nzT : List AV → List AV → Prop
 | [], [] => True
 | x :: l, y :: r => nzA x y ∧ nzT l r
 | _, _ => False
section
variable {S : Nat → Prop} {m : Nat → Option Value} {w : World}
theorem rep_nzP {x y : AV} {u : Value} (h : nzP x y) (k : Rep S m w x u) : Rep S m w y u := by
 rcases h with rfl | ⟨s, rfl, rfl⟩
 ·exact k
 ·simp only [Rep, PRep] at k ⊢
  obtain ⟨rfl, _⟩ := k
  simp only [PRepL]
  exact ⟨none, 0, [], rfl, Nat.le_refl _, by simp, rfl, by simp⟩
theorem repL_nz : ∀ {l r : List AV} {us : List Value}, nzL l r → RepL S m w l us → RepL S m w r us
 | [], [], _, _, k => k
 | x :: l, y :: r, us, h, k => by
  simp only [RepL] at k ⊢
  obtain ⟨u, us, rfl, k1, k2⟩ := k
  exact ⟨u, us, rfl, rep_nzP h.1 k1, repL_nz h.2 k2⟩
theorem rep_nzA {x y : AV} {u : Value} (h : nzA x y) (k : Rep S m w x u) : Rep S m w y u := by
 rcases h with h | ⟨l, r, rfl, rfl, h⟩
 ·exact rep_nzP h k
 ·simp only [Rep] at k ⊢
  obtain ⟨us, rfl, k1, k2⟩ := k
  exact ⟨us, rfl, repL_nz h k1, k2⟩
theorem repL_nzT : ∀ {l r : List AV} {us : List Value}, nzT l r → RepL S m w l us → RepL S m w r us
 | [], [], _, _, k => k
 | x :: l, y :: r, us, h, k => by
  simp only [RepL] at k ⊢
  obtain ⟨u, us, rfl, k1, k2⟩ := k
  exact ⟨u, us, rfl, rep_nzA h.1 k1, repL_nzT h.2 k2⟩
end
theorem fn_nzT {P : Program} {f : FuncId} {args l r : List AV} {news : List (Nat × AObj)} (h : Fn P f args (.tup l) news) (k : nzT l r) : Fn P f args (.tup r) news := by
 intro w A us hA hG hu
 refine (h w A us hA hG hu).mono fun en w' ⟨v, he, S', m', h1, h2⟩ => ⟨v, he, S', m', ?_, h2⟩
 simp only [Rep] at h1 ⊢
 obtain ⟨us, rfl, h1⟩ := h1
 exact ⟨us, rfl, repL_nzT k h1⟩
theorem ziB {P : Program} {o : Oper} {xs : List AV} {rds : List (Nat × Slot)} {n : Nat} {e : TypeId} {size k : Nat} {zs : List PV} (h : AOp P o xs ((n, .un) :: rds) [(n, .live (.row e size k zs))] (.row n)) : AOp P o xs ((n, .un) :: rds) [] (.p (.sl k size zs)) := by
 intro w0 A S m heap w ev hm hR hrd
 have hn : heap n = .un := hrd (n, .un) (by simp)
 have hNm : ∀ i, [n].elem i = true → m i = none := by
  intro i hi
  have : i = n := by simpa using hi
  subst this
  exact hm.un _ hn
 have key : ∀ (v : Value) (w' : World), (∃ S' m', Rep S' m' w' (.row n) v ∧ Mem w0 A S' m' (updL heap [(n, .live (.row e size k zs))]) w' ∧ Grow S m w S' m' w') → ∃ S' m', Rep S' m' w' (.p (.sl k size zs)) v ∧ Mem w0 A S' m' (updL heap []) w' ∧ Grow S m w S' m' w' := by
  rintro v w' ⟨S', m', h1, h2, h3⟩
  have hl : updL heap [(n, .live (.row e size k zs))] n = .live (.row e size k zs) := by simp [updL]
  have ho : ∀ i, i ≠ n → updL heap [(n, .live (.row e size k zs))] i = heap i := fun i hi => by simp only [updL, nbeq hi, cond_false]
  simp only [Rep] at h1
  let T : Nat → Prop := fun b => S' b ∨ ∃ v0, m' n = some v0 ∧ blk v0 = some b
  have hST : ∀ b, S' b → T b := fun b hb => .inl hb
  refine ⟨T, cutN [n] m', ?_, ⟨h2.bel, ?_, ?_, ?_, ?_, ?_, h2.gl⟩, ⟨fun b hb => .inl (h3.s b hb), h3.w, fun i u hi => by rw [zha hNm hi]; exact h3.m i u hi⟩⟩
  ·simp only [Rep]
   exact row_rep h2 hST hl (fun v b hv hb => .inr ⟨v, hv, hb⟩) h1.1
  ·rintro b (hb | ⟨v0, h5, h4⟩)
   ·exact h2.sA b hb
   ·obtain ⟨v', k1, k2, _⟩ := h2.live n _ hl
    rw [h5] at k1; cases k1
    exact .inr (k2.lt h4).1
  ·rintro b (hb | ⟨v0, h5, h4⟩)
   ·exact h2.sW b hb
   ·obtain ⟨v', k1, k2, _⟩ := h2.live n _ hl
    rw [h5] at k1; cases k1
    exact (k2.lt h4).2
  ·intro i hi
   by_cases e' : i = n
   ·subst e'; simp [cutN]
   ·have : (!([n].elem i)) = true := by simp [e']
    rw [zds this]
    exact h2.un i (by rw [ho i e']; exact hi)
  ·intro i ob hi
   have hi0 : heap i = .live ob := hi
   have e' : i ≠ n := fun e' => by rw [e', hn] at hi0; cases hi0
   have hf : (!([n].elem i)) = true := by simp [e']
   obtain ⟨v1, k1, k2, k3⟩ := h2.live i ob (by rw [ho i e']; exact hi0)
   obtain ⟨v0, _, j2, _⟩ := hm.live i ob hi0
   refine ⟨v1, by rw [zds hf]; exact k1, orep_cut2 hNm j2 (ORep.mono ⟨hST, fun _ _ => rfl, fun _ _ h => h⟩ k2 (fun _ _ => rfl)), fun b hb => ?_⟩
   rintro (hs | ⟨v2, h5, h4⟩)
   ·exact k3 b hb hs
   ·exact e' (h2.inj i n ob _ v1 v2 b (by rw [ho i e']; exact hi0) hl k1 h5 hb h4)
  ·intro i j ob ob' u u' b hi hj hu hu' hb hb'
   have hi0 : heap i = .live ob := hi
   have hj0 : heap j = .live ob' := hj
   have ei : i ≠ n := fun e' => by rw [e', hn] at hi0; cases hi0
   have ej : j ≠ n := fun e' => by rw [e', hn] at hj0; cases hj0
   rw [zds (by simp [ei])] at hu
   rw [zds (by simp [ej])] at hu'
   exact h2.inj i j ob ob' u u' b (by rw [ho i ei]; exact hi0) (by rw [ho j ej]; exact hj0) hu hu' hb hb'
 have h0 := h w0 A S m heap w ev hm hR hrd
 unfold Out at h0 ⊢
 generalize (execOp ev o).run P w = res at h0 ⊢
 cases res with
 | halt x w' => exact h0
 | ok nx w' =>
  cases nx with
  | value v => exact key v w' h0
  | skip => exact key undef w' h0
  | enter f args => exact h0.mono fun e w'' ⟨v, he, hk⟩ => ⟨v, he, key v w'' hk⟩
  | _ => exact h0
theorem fn_nrow {P : Program} {f : FuncId} {args : List AV} {y : PV} {e : TypeId} {size : Nat} (h : Fn P f args (.tup [.p (.v (.slice none 0 0)), .p y]) []) : Fn P f args (.tup [.row 0, .p y]) [(0, .row e size 0 [])] := by
 intro w A us hA hG hu
 refine (h w A us hA hG hu).mono fun en w' ⟨v, he, S', m', h1, h2⟩ => ⟨v, he, S', fun o => bif Nat.beq o 0 then some (.slice none 0 0) else none, ?_, ?_⟩
 ·simp only [Rep, RepL, PRep] at h1 ⊢
  obtain ⟨ts, rfl, u0, _, rfl, ⟨rfl, _⟩, u1, _, rfl, k1, rfl⟩ := h1
  exact ⟨_, rfl, _, _, rfl, ⟨rfl, none, 0, 0, rfl⟩, _, _, rfl, k1, rfl⟩
 ·refine ⟨h2.bel, h2.sA, h2.sW, fun o ho => ?_, fun o ob ho => ?_, fun o o' ob ob' v v' b ho ho' hv hv' hb hb' => ?_, h2.gl⟩
  ·by_cases e : o = 0
   ·subst e; cases ho
   ·simp only [nbeq e, cond_false]
  ·by_cases e : o = 0
   ·subst e
    cases ho
    exact ⟨_, rfl, ⟨[], by simp only [PRepL], by simp, .inl ⟨rfl, rfl⟩⟩, fun b hb => by cases hb⟩
   ·simp only [zcx, nbeq e, cond_false] at ho; cases ho
  ·by_cases e : o = 0
   ·subst e
    cases hv
    cases hb
   ·simp only [nbeq e, cond_false] at hv; cases hv
end Go.Proofs.YtbjdjclkbjpebaaGreatDoor
namespace Go.Proofs.YtbjdjclkbjpebaaGreatDoor
open Tryz
open Go.RowKit Go.Sort
set_option maxHeartbeats 16000000
set_option linter.unusedVariables false
set_option linter.unusedSimpArgs false
set_option maxRecDepth 100000
structure SH where
 lo : Int
 hi : Int
 s : Bool
 r : Bool
 c : Bool
 ok : Bool
def ofS (t : Int) : SH := if t = 1 then ⟨32, 32, true, false, false, true⟩ else if t = 2 then ⟨24, 24, true, true, false, true⟩ else if t = 4 then ⟨16, 236, false, true, true, true⟩ else ⟨0, 0, false, false, false, false⟩
def SH.cells (x : SH) : List AV := [.p (.v (.int .i64 x.lo)), .p (.v (.int .i64 x.hi)), .p (.v (.bool x.s)), .p (.v (.bool x.r)), .p (.v (.bool x.c))]
theorem of_s (t : Int) : Fn prog 107 [.p (.v (.int .i64 t))] (.tup [.agg (ofS t).cells, .p (.v (.bool (ofS t).ok))]) [] := by
 unfold ofS
 refine fnI fun w0 A => ?_
 refine G [16, 9, 0] ?_
 refine cX (fun h => ?_) fun h => ?_
 ·have h1 : t = 1 := by simpa using h
  rw [if_pos h1]
  refine jcq ?_
  exact yE
 have h1 : ¬ t = 1 := by simpa using h
 clear h
 rw [if_neg h1]
 refine jct ?_
 refine cX (fun h => ?_) fun h => ?_
 ·have h2 : t = 2 := by simpa using h
  rw [if_pos h2]
  refine jcq ?_
  exact yE
 have h2 : ¬ t = 2 := by simpa using h
 clear h
 rw [if_neg h2]
 refine jct ?_
 refine cX (fun h => ?_) fun h => ?_
 ·have h3 : t = 4 := by simpa using h
  rw [if_pos h3]
  refine jcq ?_
  exact yE
 have h3 : ¬ t = 4 := by simpa using h
 clear h
 rw [if_neg h3]
 refine jcM ?_
 exact yE
structure MS where
 t : Int
 s : Int
 r : Int
 c : Int
 n : Nat
 xs : List Int
def MS.cells (m : MS) : List AV := [.p (.v (.int .i64 m.t)), .p (.v (.int .i64 m.s)), .p (.v (.int .i64 m.r)), .p (.v (.int .i64 m.c)), .p (.sl m.n 1 (bs m.xs))]
def MS.pv (m : MS) : List PV := [.v (.int .i64 m.t), .v (.int .i64 m.s), .v (.int .i64 m.r), .v (.int .i64 m.c), .sl m.n 1 (bs m.xs)]
def zht (x : SH) (m : MS) : Bool := ((!x.s && (m.s != 0)) || (!x.r && (m.r != 0))) || (!x.c && (m.c != 0))
def rngB (m : MS) : Bool := ((((decide (m.s < 0) || decide (4294967295 < m.s)) || decide (m.r < 0)) || decide (4294967295 < m.r)) || decide (m.c < 0)) || decide (1099511627776 < m.c)
def sizB (x : SH) (m : MS) : Bool := decide ((m.n : Int) < x.lo) || decide (x.hi < (m.n : Int))
def wE (m : MS) : Int := if (ofS m.t).ok = false then 2 else if zht (ofS m.t) m = true then 3 else if rngB m = true then 4 else if sizB (ofS m.t) m = true then 1 else 0
theorem zfa (m : MS) (hn : m.n ≤ 140737488355328) : Fn prog 72 [.agg m.cells] (.p (.v (.int .i64 (wE m)))) [] := by
 have hO := of_s m.t
 unfold wE
 generalize ofS m.t = x at *
 refine fnI fun w0 A => ?_
 refine G [9] ?_
 refine cV hO ?_
 refine G [13, 9, 0] ?_
 refine cX (fun h => ?_) fun h => ?_
 ·have h1 : x.ok = false := by simpa using h
  rw [if_pos h1]
  refine jct ?_
  exact yE
 have h1 : ¬ x.ok = false := by simpa using h
 clear h
 rw [if_neg h1]
 refine G [11, 2, 8] ?_
 refine r_mb3 _ rfl rfl (.mb _ _ _ _ (by first | exact id | simp_all) (.keep _ _ _ (.keep _ _ _ .nil))) (fun hb => (a_and (by first | exact id | (simp_all; done) | grind))) (fun _ => trivial) ?_
 refine G [0, 2, 8] ?_
 refine r_mb3 _ rfl rfl (.mb _ _ _ _ (by first | exact id | simp_all) (.keep _ _ _ (.keep _ _ _ .nil))) (fun hb => (a_and (by first | exact id | (simp_all; done) | grind))) (fun _ => trivial) ?_
 refine G [0, 2, 1, 9, 0] ?_
 refine cX (fun h => ?_) fun h => ?_
 ·rw [if_pos (show zht x m = true from h)]
  refine jct ?_
  exact yE
 rw [if_neg (show ¬ zht x m = true by have h' : zht x m = false := h; simp [h'])]
 clear h
 refine G [11, 2, 4, 2, 4, 2, 4, 2, 4, 2, 1, 9, 0] ?_
 refine cX (fun h => ?_) fun h => ?_
 ·rw [if_pos (show rngB m = true from h)]
  refine jct ?_
  exact yE
 rw [if_neg (show ¬ rngB m = true by have h' : rngB m = false := h; simp [h'])]
 clear h
 refine G [13] ?_
 refine mb2 _ rfl rfl (fun hb => (zdu U62)) (fun _ => trivial) ?_
 refine G [3, 2, 1, 9, 0] ?_
 refine cX (fun h => ?_) fun h => ?_
 ·rw [if_pos (show sizB x m = true from h)]
  refine jct ?_
  exact yE
 rw [if_neg (show ¬ sizB x m = true by have h' : sizB x m = false := h; simp [h'])]
 refine jcs ?_
 exact yE
def leN (m n : Nat) : List Int := (List.range m).map fun i => ((n / 256 ^ i % 256 : Nat) : Int)
theorem zbH (m n : Nat) : (leN m n).length = m := by simp [leN]
theorem zhp (m n : Nat) : isB (leN m n) := by
 intro x hx
 simp only [leN, List.mem_map] at hx
 obtain ⟨i, _, rfl⟩ := hx
 omega
theorem zbW (m n : Nat) : leN (m + 1) n = leN m n ++ [((n / 256 ^ m % 256 : Nat) : Int)] := by simp [leN, List.range_succ]
theorem put4_s (a : Nat) (ys : List Int) (n : Nat) (hy : ys.length = a) (ha : a ≤ 1000) (hn : n < 9223372036854775808) : FnO prog 108 [.row 1, .p (.v (.int .i64 n)), .p (.v (.int .i64 4))] ((1, .live (.row 5 1 a (bs ys))) :: [(100, .un), (101, .un), (102, .un), (103, .un), (104, .un), (105, .un), (106, .un), (107, .un)]) ((107, .live (.row 5 1 (a + 4) (bs (ys ++ leN 4 n)))) :: (1, .dead) :: [(100, .dead), (101, .dead), (102, .dead), (103, .dead), (104, .dead), (105, .dead), (106, .dead)]) (.row 107) := by
 rw [show AV.p (.v (.int .i64 (n : Int))) = .p (.v (.int .i64 ((n / 256 ^ 0 : Nat) : Int))) by simp]
 rw [show bs ys = bs (ys ++ leN 0 n) by simp [leN]]
 refine zg8 func108 rfl (Nat.le_of_ble_eq_true rfl) fun w0 A heap => ?_
 refine zad (tx (jcA ?_))
 refine zac (zad (zad (tx (jco ?_))))
 refine jco ?_
 refine zac (zao (zel 5 ?_))
 refine zf3 ?_
 refine zad (tx (jcY ?_))
 refine zac (zad (zaJ _ rfl (fun h => ?_) (fun h => ?_)))
 rotate_left
 ·cases h
 clear h
 have g0 : IntKind.u8.wrap ((n / 256 ^ 0 : Nat) : Int) = ((n / 256 ^ 0 % 256 : Nat) : Int) := by rw [IntKind.wrap_u8]; omega
 have f0 : ((n / 256 ^ 0 : Nat) : Int).fdiv (2 ^ min (8 : Int).toNat IntKind.i64.bits) = ((n / 256 ^ 1 : Nat) : Int) := by
  exact jap
 have L0 : leN 1 n = leN 0 n ++ [((n / 256 ^ 0 % 256 : Nat) : Int)] := zbW 0 n
 refine jcW ?_
 refine tx (jcw ?_)
 refine jco ?_
 refine jdz (zbL U3 U5 g0) ?_
 refine jcB ?_
 refine jc4 ?_
 refine jcL ?_
 refine zac (zaz (za2 (zbM 100) ?_))
 skip
 refine tx (jco ?_)
 refine zaa (zce (by omega) f0) rfl rfl ?_
 refine jcA ?_
 refine zac (zbz (zaz (tx (jcu ?_))))
 refine jco ?_
 refine zac (zad (tx (jcY ?_)))
 refine zac (zad (zaJ _ rfl (fun h => ?_) (fun h => ?_)))
 rotate_left
 ·cases h
 clear h
 have g1 : IntKind.u8.wrap ((n / 256 ^ 1 : Nat) : Int) = ((n / 256 ^ 1 % 256 : Nat) : Int) := by rw [IntKind.wrap_u8]; omega
 have f1 : ((n / 256 ^ 1 : Nat) : Int).fdiv (2 ^ min (8 : Int).toNat IntKind.i64.bits) = ((n / 256 ^ 2 : Nat) : Int) := by
  exact jap
 have L1 : leN 2 n = leN 1 n ++ [((n / 256 ^ 1 % 256 : Nat) : Int)] := zbW 1 n
 refine jcW ?_
 refine tx (jcw ?_)
 refine jco ?_
 refine jdz (zbL U3 U5 g1) ?_
 refine jcC ?_
 refine jc5 ?_
 refine jcL ?_
 refine zac (zaz (za2 (zbM 102) ?_))
 skip
 refine tx (jco ?_)
 refine zaa (zce (by omega) f1) rfl rfl ?_
 refine jcA ?_
 refine zac (zbz (zaz (tx (jcu ?_))))
 refine jco ?_
 refine zac (zad (tx (jcY ?_)))
 refine zac (zad (zaJ _ rfl (fun h => ?_) (fun h => ?_)))
 rotate_left
 ·cases h
 clear h
 have g2 : IntKind.u8.wrap ((n / 256 ^ 2 : Nat) : Int) = ((n / 256 ^ 2 % 256 : Nat) : Int) := by rw [IntKind.wrap_u8]; omega
 have f2 : ((n / 256 ^ 2 : Nat) : Int).fdiv (2 ^ min (8 : Int).toNat IntKind.i64.bits) = ((n / 256 ^ 3 : Nat) : Int) := by
  exact jap
 have L2 : leN 3 n = leN 2 n ++ [((n / 256 ^ 2 % 256 : Nat) : Int)] := zbW 2 n
 refine jcW ?_
 refine tx (jcw ?_)
 refine jco ?_
 refine jdz (zbL U3 U5 g2) ?_
 refine jcD ?_
 refine jc6 ?_
 refine jcL ?_
 refine zac (zaz (za2 (zbM 104) ?_))
 skip
 refine tx (jco ?_)
 refine zaa (zce (by omega) f2) rfl rfl ?_
 refine jcA ?_
 refine zac (zbz (zaz (tx (jcu ?_))))
 refine jco ?_
 refine zac (zad (tx (jcY ?_)))
 refine zac (zad (zaJ _ rfl (fun h => ?_) (fun h => ?_)))
 rotate_left
 ·cases h
 clear h
 have g3 : IntKind.u8.wrap ((n / 256 ^ 3 : Nat) : Int) = ((n / 256 ^ 3 % 256 : Nat) : Int) := by rw [IntKind.wrap_u8]; omega
 have f3 : ((n / 256 ^ 3 : Nat) : Int).fdiv (2 ^ min (8 : Int).toNat IntKind.i64.bits) = ((n / 256 ^ 4 : Nat) : Int) := by
  exact jap
 have L3 : leN 4 n = leN 3 n ++ [((n / 256 ^ 3 % 256 : Nat) : Int)] := zbW 3 n
 refine jcW ?_
 refine tx (jcw ?_)
 refine jco ?_
 refine jdz (zbL U3 U5 g3) ?_
 refine jcE ?_
 refine jc7 ?_
 refine jcL ?_
 refine zac (zaz (za2 (zbM 106) ?_))
 skip
 refine tx (jco ?_)
 refine zaa (zce (by omega) f3) rfl rfl ?_
 exact jbj
theorem put8_s (a : Nat) (ys : List Int) (n : Nat) (hy : ys.length = a) (ha : a ≤ 1000) (hn : n < 9223372036854775808) : FnO prog 108 [.row 1, .p (.v (.int .i64 n)), .p (.v (.int .i64 8))] ((1, .live (.row 5 1 a (bs ys))) :: [(100, .un), (101, .un), (102, .un), (103, .un), (104, .un), (105, .un), (106, .un), (107, .un), (108, .un), (109, .un), (110, .un), (111, .un), (112, .un), (113, .un), (114, .un), (115, .un)]) ((115, .live (.row 5 1 (a + 8) (bs (ys ++ leN 8 n)))) :: (1, .dead) :: [(100, .dead), (101, .dead), (102, .dead), (103, .dead), (104, .dead), (105, .dead), (106, .dead), (107, .dead), (108, .dead), (109, .dead), (110, .dead), (111, .dead), (112, .dead), (113, .dead), (114, .dead)]) (.row 115) := by
 rw [show AV.p (.v (.int .i64 (n : Int))) = .p (.v (.int .i64 ((n / 256 ^ 0 : Nat) : Int))) by simp]
 rw [show bs ys = bs (ys ++ leN 0 n) by simp [leN]]
 refine zg8 func108 rfl (Nat.le_of_ble_eq_true rfl) fun w0 A heap => ?_
 refine zad (tx (jcA ?_))
 refine zac (zad (zad (tx (jco ?_))))
 refine jco ?_
 refine zac (zao (zel 9 ?_))
 refine zf3 ?_
 refine zad (tx (jcY ?_))
 refine zac (zad (zaJ _ rfl (fun h => ?_) (fun h => ?_)))
 rotate_left
 ·cases h
 clear h
 have g0 : IntKind.u8.wrap ((n / 256 ^ 0 : Nat) : Int) = ((n / 256 ^ 0 % 256 : Nat) : Int) := by rw [IntKind.wrap_u8]; omega
 have f0 : ((n / 256 ^ 0 : Nat) : Int).fdiv (2 ^ min (8 : Int).toNat IntKind.i64.bits) = ((n / 256 ^ 1 : Nat) : Int) := by
  exact jap
 have L0 : leN 1 n = leN 0 n ++ [((n / 256 ^ 0 % 256 : Nat) : Int)] := zbW 0 n
 refine jcW ?_
 refine tx (jcw ?_)
 refine jco ?_
 refine jdz (zbL U3 U5 g0) ?_
 refine jcB ?_
 refine jc4 ?_
 refine jcL ?_
 refine zac (zaz (za2 (zbM 100) ?_))
 skip
 refine tx (jco ?_)
 refine zaa (zce (by omega) f0) rfl rfl ?_
 refine jcA ?_
 refine zac (zbz (zaz (tx (jcu ?_))))
 refine jco ?_
 refine zac (zad (tx (jcY ?_)))
 refine zac (zad (zaJ _ rfl (fun h => ?_) (fun h => ?_)))
 rotate_left
 ·cases h
 clear h
 have g1 : IntKind.u8.wrap ((n / 256 ^ 1 : Nat) : Int) = ((n / 256 ^ 1 % 256 : Nat) : Int) := by rw [IntKind.wrap_u8]; omega
 have f1 : ((n / 256 ^ 1 : Nat) : Int).fdiv (2 ^ min (8 : Int).toNat IntKind.i64.bits) = ((n / 256 ^ 2 : Nat) : Int) := by
  exact jap
 have L1 : leN 2 n = leN 1 n ++ [((n / 256 ^ 1 % 256 : Nat) : Int)] := zbW 1 n
 refine jcW ?_
 refine tx (jcw ?_)
 refine jco ?_
 refine jdz (zbL U3 U5 g1) ?_
 refine jcC ?_
 refine jc5 ?_
 refine jcL ?_
 refine zac (zaz (za2 (zbM 102) ?_))
 skip
 refine tx (jco ?_)
 refine zaa (zce (by omega) f1) rfl rfl ?_
 refine jcA ?_
 refine zac (zbz (zaz (tx (jcu ?_))))
 refine jco ?_
 refine zac (zad (tx (jcY ?_)))
 refine zac (zad (zaJ _ rfl (fun h => ?_) (fun h => ?_)))
 rotate_left
 ·cases h
 clear h
 have g2 : IntKind.u8.wrap ((n / 256 ^ 2 : Nat) : Int) = ((n / 256 ^ 2 % 256 : Nat) : Int) := by rw [IntKind.wrap_u8]; omega
 have f2 : ((n / 256 ^ 2 : Nat) : Int).fdiv (2 ^ min (8 : Int).toNat IntKind.i64.bits) = ((n / 256 ^ 3 : Nat) : Int) := by
  exact jap
 have L2 : leN 3 n = leN 2 n ++ [((n / 256 ^ 2 % 256 : Nat) : Int)] := zbW 2 n
 refine jcW ?_
 refine tx (jcw ?_)
 refine jco ?_
 refine jdz (zbL U3 U5 g2) ?_
 refine jcD ?_
 refine jc6 ?_
 refine jcL ?_
 refine zac (zaz (za2 (zbM 104) ?_))
 skip
 refine tx (jco ?_)
 refine zaa (zce (by omega) f2) rfl rfl ?_
 refine jcA ?_
 refine zac (zbz (zaz (tx (jcu ?_))))
 refine jco ?_
 refine zac (zad (tx (jcY ?_)))
 refine zac (zad (zaJ _ rfl (fun h => ?_) (fun h => ?_)))
 rotate_left
 ·cases h
 clear h
 have g3 : IntKind.u8.wrap ((n / 256 ^ 3 : Nat) : Int) = ((n / 256 ^ 3 % 256 : Nat) : Int) := by rw [IntKind.wrap_u8]; omega
 have f3 : ((n / 256 ^ 3 : Nat) : Int).fdiv (2 ^ min (8 : Int).toNat IntKind.i64.bits) = ((n / 256 ^ 4 : Nat) : Int) := by
  exact jap
 have L3 : leN 4 n = leN 3 n ++ [((n / 256 ^ 3 % 256 : Nat) : Int)] := zbW 3 n
 refine jcW ?_
 refine tx (jcw ?_)
 refine jco ?_
 refine jdz (zbL U3 U5 g3) ?_
 refine jcE ?_
 refine jc7 ?_
 refine jcL ?_
 refine zac (zaz (za2 (zbM 106) ?_))
 skip
 refine tx (jco ?_)
 refine zaa (zce (by omega) f3) rfl rfl ?_
 refine jcA ?_
 refine zac (zbz (zaz (tx (jcu ?_))))
 refine jco ?_
 refine zac (zad (tx (jcY ?_)))
 refine zac (zad (zaJ _ rfl (fun h => ?_) (fun h => ?_)))
 rotate_left
 ·cases h
 clear h
 have g4 : IntKind.u8.wrap ((n / 256 ^ 4 : Nat) : Int) = ((n / 256 ^ 4 % 256 : Nat) : Int) := by rw [IntKind.wrap_u8]; omega
 have f4 : ((n / 256 ^ 4 : Nat) : Int).fdiv (2 ^ min (8 : Int).toNat IntKind.i64.bits) = ((n / 256 ^ 5 : Nat) : Int) := by
  exact jap
 have L4 : leN 5 n = leN 4 n ++ [((n / 256 ^ 4 % 256 : Nat) : Int)] := zbW 4 n
 refine jcW ?_
 refine tx (jcw ?_)
 refine jco ?_
 refine jdz (zbL U3 U5 g4) ?_
 refine zab (xs := [.p (.v (.int .u8 ((n / 256 ^ 4 % 256 : Nat) : Int)))]) (zae (es := [.p (.v (.int .u8 ((n / 256 ^ 4 % 256 : Nat) : Int)))]) (cs := (bs [((n / 256 ^ 4 % 256 : Nat) : Int)])) 108 U62 sz5 zc5 (Nat.le_of_ble_eq_true rfl) (Nat.le_of_ble_eq_true rfl) rfl (by kernel_rfl) (by kernel_rfl) (by kernel_rfl) (Nat.le_of_ble_eq_true rfl)) (by first | rfl | kernel_rfl) rfl ⟨rfl, trivial⟩ ?_
 refine zab (zal 109 U62 eo5 (zax) (by simp only [maxLen]; omega) (by omega) (show _ = a + 5 by omega) (show _ = bs (ys ++ leN 5 n) by rw [zbp, L4, ← List.append_assoc])) rfl rfl ⟨rfl, rfl, rfl, trivial⟩ ?_
 refine jcL ?_
 refine zac (zaz (za2 (zbM 108) ?_))
 skip
 refine tx (jco ?_)
 refine zaa (zce (by omega) f4) rfl rfl ?_
 refine jcA ?_
 refine zac (zbz (zaz (tx (jcu ?_))))
 refine jco ?_
 refine zac (zad (tx (jcY ?_)))
 refine zac (zad (zaJ _ rfl (fun h => ?_) (fun h => ?_)))
 rotate_left
 ·cases h
 clear h
 have g5 : IntKind.u8.wrap ((n / 256 ^ 5 : Nat) : Int) = ((n / 256 ^ 5 % 256 : Nat) : Int) := by rw [IntKind.wrap_u8]; omega
 have f5 : ((n / 256 ^ 5 : Nat) : Int).fdiv (2 ^ min (8 : Int).toNat IntKind.i64.bits) = ((n / 256 ^ 6 : Nat) : Int) := by
  exact jap
 have L5 : leN 6 n = leN 5 n ++ [((n / 256 ^ 5 % 256 : Nat) : Int)] := zbW 5 n
 refine jcW ?_
 refine tx (jcw ?_)
 refine jco ?_
 refine jdz (zbL U3 U5 g5) ?_
 refine zab (xs := [.p (.v (.int .u8 ((n / 256 ^ 5 % 256 : Nat) : Int)))]) (zae (es := [.p (.v (.int .u8 ((n / 256 ^ 5 % 256 : Nat) : Int)))]) (cs := (bs [((n / 256 ^ 5 % 256 : Nat) : Int)])) 110 U62 sz5 zc5 (Nat.le_of_ble_eq_true rfl) (Nat.le_of_ble_eq_true rfl) rfl (by kernel_rfl) (by kernel_rfl) (by kernel_rfl) (Nat.le_of_ble_eq_true rfl)) (by first | rfl | kernel_rfl) rfl ⟨rfl, trivial⟩ ?_
 refine zab (zal 111 U62 eo5 (zax) (by simp only [maxLen]; omega) (by omega) (show _ = a + 6 by omega) (show _ = bs (ys ++ leN 6 n) by rw [zbp, L5, ← List.append_assoc])) rfl rfl ⟨rfl, rfl, rfl, trivial⟩ ?_
 refine jcL ?_
 refine zac (zaz (za2 (zbM 110) ?_))
 skip
 refine tx (jco ?_)
 refine zaa (zce (by omega) f5) rfl rfl ?_
 refine jcA ?_
 refine zac (zbz (zaz (tx (jcu ?_))))
 refine jco ?_
 refine zac (zad (tx (jcY ?_)))
 refine zac (zad (zaJ _ rfl (fun h => ?_) (fun h => ?_)))
 rotate_left
 ·cases h
 clear h
 have g6 : IntKind.u8.wrap ((n / 256 ^ 6 : Nat) : Int) = ((n / 256 ^ 6 % 256 : Nat) : Int) := by rw [IntKind.wrap_u8]; omega
 have f6 : ((n / 256 ^ 6 : Nat) : Int).fdiv (2 ^ min (8 : Int).toNat IntKind.i64.bits) = ((n / 256 ^ 7 : Nat) : Int) := by
  exact jap
 have L6 : leN 7 n = leN 6 n ++ [((n / 256 ^ 6 % 256 : Nat) : Int)] := zbW 6 n
 refine jcW ?_
 refine tx (jcw ?_)
 refine jco ?_
 refine jdz (zbL U3 U5 g6) ?_
 refine zab (xs := [.p (.v (.int .u8 ((n / 256 ^ 6 % 256 : Nat) : Int)))]) (zae (es := [.p (.v (.int .u8 ((n / 256 ^ 6 % 256 : Nat) : Int)))]) (cs := (bs [((n / 256 ^ 6 % 256 : Nat) : Int)])) 112 U62 sz5 zc5 (Nat.le_of_ble_eq_true rfl) (Nat.le_of_ble_eq_true rfl) rfl (by kernel_rfl) (by kernel_rfl) (by kernel_rfl) (Nat.le_of_ble_eq_true rfl)) (by first | rfl | kernel_rfl) rfl ⟨rfl, trivial⟩ ?_
 refine zab (zal 113 U62 eo5 (zax) (by simp only [maxLen]; omega) (by omega) (show _ = a + 7 by omega) (show _ = bs (ys ++ leN 7 n) by rw [zbp, L6, ← List.append_assoc])) rfl rfl ⟨rfl, rfl, rfl, trivial⟩ ?_
 refine jcL ?_
 refine zac (zaz (za2 (zbM 112) ?_))
 skip
 refine tx (jco ?_)
 refine zaa (zce (by omega) f6) rfl rfl ?_
 refine jcA ?_
 refine zac (zbz (zaz (tx (jcu ?_))))
 refine jco ?_
 refine zac (zad (tx (jcY ?_)))
 refine zac (zad (zaJ _ rfl (fun h => ?_) (fun h => ?_)))
 rotate_left
 ·cases h
 clear h
 have g7 : IntKind.u8.wrap ((n / 256 ^ 7 : Nat) : Int) = ((n / 256 ^ 7 % 256 : Nat) : Int) := by rw [IntKind.wrap_u8]; omega
 have f7 : ((n / 256 ^ 7 : Nat) : Int).fdiv (2 ^ min (8 : Int).toNat IntKind.i64.bits) = ((n / 256 ^ 8 : Nat) : Int) := by
  exact jap
 have L7 : leN 8 n = leN 7 n ++ [((n / 256 ^ 7 % 256 : Nat) : Int)] := zbW 7 n
 refine jcW ?_
 refine tx (jcw ?_)
 refine jco ?_
 refine jdz (zbL U3 U5 g7) ?_
 refine zab (xs := [.p (.v (.int .u8 ((n / 256 ^ 7 % 256 : Nat) : Int)))]) (zae (es := [.p (.v (.int .u8 ((n / 256 ^ 7 % 256 : Nat) : Int)))]) (cs := (bs [((n / 256 ^ 7 % 256 : Nat) : Int)])) 114 U62 sz5 zc5 (Nat.le_of_ble_eq_true rfl) (Nat.le_of_ble_eq_true rfl) rfl (by kernel_rfl) (by kernel_rfl) (by kernel_rfl) (Nat.le_of_ble_eq_true rfl)) (by first | rfl | kernel_rfl) rfl ⟨rfl, trivial⟩ ?_
 refine zab (zal 115 U62 eo5 (zax) (by simp only [maxLen]; omega) (by omega) (show _ = a + 8 by omega) (show _ = bs (ys ++ leN 8 n) by rw [zbp, L7, ← List.append_assoc])) rfl rfl ⟨rfl, rfl, rfl, trivial⟩ ?_
 refine jcL ?_
 refine zac (zaz (za2 (zbM 114) ?_))
 skip
 refine tx (jco ?_)
 refine zaa (zce (by omega) f7) rfl rfl ?_
 exact jbj
end Go.Proofs.YtbjdjclkbjpebaaGreatDoor
