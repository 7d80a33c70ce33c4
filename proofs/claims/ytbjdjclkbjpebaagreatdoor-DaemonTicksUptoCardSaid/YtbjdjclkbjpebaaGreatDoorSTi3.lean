/- daemon.Tick, over data. -/
import Derived.Test.YtbjdjclkbjpebaaGreatDoorSTi2
import Derived.Test.YtbjdjclkbjpebaaGreatDoorSDm4
namespace Go.Proofs.YtbjdjclkbjpebaaGreatDoor
open Tryz
open Go.RowKit Go.Sort
set_option maxHeartbeats 16000000
set_option linter.unusedVariables false
set_option linter.unusedSimpArgs false
set_option maxRecDepth 100000
theorem prepL_nil {S : Nat → Prop} {w : World} {b : List PV} {k : Nat} : ∀ {a : List PV} {us : List Value}, PRepL S w (a ++ .v (.slice none 0 0) :: b) us → PRepL S w (a ++ .sl 0 k [] :: b) us
 | [], us, h => by
  simp only [List.nil_append, PRepL, PRep] at h ⊢
  obtain ⟨u, us, rfl, ⟨rfl, _⟩, h⟩ := h
  exact ⟨_, us, rfl, ⟨none, 0, [], rfl, Nat.le_refl _, by simp, rfl, by simp⟩, h⟩
 | x :: a, us, h => by
  simp only [List.cons_append, PRepL] at h ⊢
  obtain ⟨u, us, rfl, h1, h⟩ := h
  exact ⟨u, us, rfl, h1, prepL_nil h⟩
theorem re_row {st : St} (o : Nat) {e size n : Nat} {cs cs' : List PV} (hq : st.heap o = .live (.row e size n cs)) (k : ∀ (S : Nat → Prop) (w : World) (us : List Value), PRepL S w cs us → PRepL S w cs' us) : Re st (st.upd [(o, .live (.row e size n cs'))]) := by
 rintro w0 A nt a w ⟨⟨S, m, hm, hj, hr⟩, hsz, hd⟩
 refine ⟨⟨S, m, ?_, hj, hr⟩, hsz, hd⟩
 have key : ∀ x, x ≠ o → (st.upd [(o, .live (.row e size n cs'))]).heap x = st.heap x := fun x hx => by simp [St.upd, updL, nbeq hx]
 have key0 : (st.upd [(o, .live (.row e size n cs'))]).heap o = .live (.row e size n cs') := by simp [St.upd, updL]
 have kl : ∀ x ob, (st.upd [(o, .live (.row e size n cs'))]).heap x = .live ob → ∃ ob', st.heap x = .live ob' := fun x ob hx => by
  by_cases e1 : x = o
  ·subst e1; exact ⟨_, hq⟩
  ·exact ⟨ob, by rw [← key x e1]; exact hx⟩
 refine ⟨hm.bel, hm.sA, hm.sW, fun x hx => ?_, fun x ob hx => ?_, fun x x' ob ob' v v' b hx hx' hv hv' hb hb' => ?_, hm.gl⟩
 ·by_cases e1 : x = o
  ·subst e1; rw [key0] at hx; cases hx
  ·exact hm.un x (by rw [← key x e1]; exact hx)
 ·by_cases e1 : x = o
  ·subst e1
   rw [key0] at hx
   cases hx
   obtain ⟨v, h1, ⟨us, h2, h3⟩, h4⟩ := hm.live x _ hq
   exact ⟨v, h1, ⟨us, k _ _ _ h2, h3⟩, h4⟩
  ·exact hm.live x ob (by rw [← key x e1]; exact hx)
 ·obtain ⟨o1, k1⟩ := kl x ob hx
  obtain ⟨o2, k2⟩ := kl x' ob' hx'
  exact hm.inj x x' o1 o2 v v' b k1 k2 hv hv' hb hb'
theorem re_rowNil {st : St} (o : Nat) {e size n : Nat} {cs cs' : List PV} (q k : Nat) (hq : st.heap o = .live (.row e size n (setR cs q [.v (.slice none 0 0)]))) (h : setR cs q [.sl 0 k []] = cs') : Re st (st.upd [(o, .live (.row e size n cs'))]) :=
 re_row o hq fun S w us hu => by
  subst h
  unfold setR at hu ⊢
  simp only [List.append_assoc, List.singleton_append, List.length_singleton] at hu ⊢
  exact prepL_nil hu
def refs3 (b : Nat) : List AV := [.ref 1 (b + (2 + 0 * 11)), .ref 1 (b + (2 + 1 * 11)), .ref 1 (b + (2 + 2 * 11))]
theorem refs3_at (b j : Nat) (h : j < 3) : (refs3 b)[j * 1]? = some (.ref 1 (b + (2 + j * 11))) := by
 exact jcj
theorem tkJ_at (now : Int) (s : ST) (j m : Nat) (h : j < 3) (hm : m < 11) : (tkJ now s j).pv[2 + j * 11 + m]? = (zc2 s.a s.b s.c j).pv[m]? := by
 rw [← tkJ_key now s j h, List.getElem?_take, if_pos hm, List.getElem?_drop]
def dm0 : DM := ⟨⟨⟨#[]⟩, 0, []⟩, [], [], ⟨false, [], ⟨⟨#[]⟩, 0, []⟩, ⟨#[]⟩, 0⟩, 0, 0, 0⟩
noncomputable def tkE (d : DM) (n : Int) : Int := if dmE d ≠ 0 then dmE d else if n < 1 ∨ 1000 < n ∨ 1099511627776 < d.now + n then 4 else 0
noncomputable def tkD (d : DM) (n : Int) : DM := if tkE d n = 0 then { d with now := d.now + n, ps := d.ps.map (tkS (d.now + n)) } else dm0
noncomputable def tkM (Z : Nat → List Int) (d : DM) (n : Int) : List LR := if tkE d n = 0 then tkQ (d.now + n) Z d.ps d.ps.length else []
theorem tkS_no {now : Int} {s : ST} (h : s.h.lv = false) : tkS now s = tkL now s ∧ tkA now s = false := by
 unfold tkS tkA
 rw [h]
 exact ⟨if_neg (by simp), rfl⟩
theorem tkS_up {now : Int} {s : ST} (h : s.h.lv = true) (g : 20 ≤ now - s.h.b) : tkS now s = { tkL now s with h := HS0, q := [] } ∧ tkA now s = false := by
 unfold tkS tkA
 rw [if_pos h, if_pos g, h]
 exact ⟨rfl, by simp; omega⟩
theorem tkS_again {now : Int} {s : ST} (h : s.h.lv = true) (g : ¬ 20 ≤ now - s.h.b) (r : 5 ≤ now - s.h.s) : tkS now s = { tkL now s with h := { s.h with s := now } } ∧ tkA now s = true := by
 unfold tkS tkA
 rw [if_pos h, if_neg g, if_pos r, h]
 exact ⟨rfl, by simp; omega⟩
theorem tkS_wait {now : Int} {s : ST} (h : s.h.lv = true) (g : ¬ 20 ≤ now - s.h.b) (r : ¬ 5 ≤ now - s.h.s) : tkS now s = tkL now s ∧ tkA now s = false := by
 unfold tkS tkA
 rw [if_pos h, if_neg g, if_neg r, h]
 exact ⟨rfl, by simp; omega⟩
theorem lateK_yes {now : Int} {k : KY} (h : k.live = true) (g : 180 ≤ now - k.born) : zbX now k = KY0 := if_pos ⟨h, g⟩
theorem lateK_no {now : Int} {k : KY} (h : k.live = true) (g : ¬ 180 ≤ now - k.born) : zbX now k = k := if_neg fun x => g x.2
theorem lateK_off {now : Int} {k : KY} (h : k.live = false) : zbX now k = k := if_neg fun x => by rw [h] at x; cases x.1
theorem zdm_nz : nzL zdmC dm0.cells :=
 ⟨.inl rfl, .inl rfl, .inr ⟨5, rfl, rfl⟩, .inr ⟨4, rfl, rfl⟩, .inr ⟨41, rfl, rfl⟩, .inl rfl, .inr ⟨5, rfl, rfl⟩, .inl rfl, .inl rfl, .inr ⟨5, rfl, rfl⟩, .inl rfl, .inl rfl, .inl rfl, .inl rfl, .inl rfl, trivial⟩
theorem no_data {f : FuncId} {args : List AV} {e : Int} (h : Fn prog f args (.tup [.agg zdmC, .p (.v (.slice none 0 0)), .p (.v (.int .i64 e))]) []) : Fn prog f args (.tup [.agg dm0.cells, .p (.sl 0 3 []), .p (.v (.int .i64 e))]) [] :=
 fn_nzT h ⟨.inr ⟨_, _, rfl, rfl, zdm_nz⟩, .inl (.inr ⟨3, rfl, rfl⟩), .inl (.inl rfl), trivial⟩
theorem zfU {f : FuncId} {d : DM} {n : Int} {Z : Nat → List Int} {args : List AV} (h : Fn prog f args (.tup [.agg zdmC, .p (.v (.slice none 0 0)), .p (.v (.int .i64 (tkE d n)))]) []) (hE : tkE d n ≠ 0) : Fn prog f args (.tup [.agg (tkD d n).cells, .p (.sl (tkM Z d n).length 3 ((tkM Z d n).flatMap LR.pv)), .p (.v (.int .i64 (tkE d n)))]) [] := by
 have := no_data h
 unfold tkD tkM
 rw [if_neg hE, if_neg hE]
 exact this
theorem tk_done {f : FuncId} {d : DM} {n : Int} {Z : Nat → List Int} {args : List AV} (hE : tkE d n = 0)
  (h : Fn prog f args (.tup [.agg (moD { d with now := d.now + n } (.row 0)), .row 1, .p (.v (.int .i64 0))]) [(0, .row 56 41 d.ps.length ((d.ps.map (tkS (d.now + n))).flatMap ST.pv)), (1, .row 64 3 (tkQ (d.now + n) Z d.ps d.ps.length).length ((tkQ (d.now + n) Z d.ps d.ps.length).flatMap LR.pv))]) :
  Fn prog f args (.tup [.agg (tkD d n).cells, .p (.sl (tkM Z d n).length 3 ((tkM Z d n).flatMap LR.pv)), .p (.v (.int .i64 (tkE d n)))]) [] := by
 unfold tkD tkM
 rw [hE, if_pos rfl, if_pos rfl]
 refine fn_fz h ?_ rfl
 unfold DM.cells stsV
 rw [List.length_map]
 rfl
theorem tick_s (d : DM) (ok : d.OK) (n : Int) (Z : Nat → List Int) (hZ : dmE d = 0 → ∀ (i : Nat) (s : ST) (p : PE), d.ps[i]? = some s → d.c.ps[i]? = some p → TkH d Z i s p) :
  Fn prog 4 [.agg d.cells, .p (.v (.int .i64 n))] (.tup [.agg (tkD d n).cells, .p (.sl (tkM Z d n).length 3 ((tkM Z d n).flatMap LR.pv)), .p (.v (.int .i64 (tkE d n)))]) [] := by
 have hC := dmCheck_s d ok
 by_cases h0 : dmE d ≠ 0
 ·exact jaQ
 have h0 : dmE d = 0 := Decidable.not_not.1 h0
 have g := dm_tk h0
 have hnow := g.now
 rw [h0] at hC
 have hE' : tkE d n = if n < 1 ∨ 1000 < n ∨ 1099511627776 < d.now + n then 4 else 0 := if_neg (by rw [h0]; simp)
 by_cases h1 : n < 1
 ·exact jaS
 by_cases h2 : 1000 < n
 ·exact jaN
 by_cases h3 : 1099511627776 < d.now + n
 ·have hE : tkE d n = 4 := by rw [hE', if_pos (.inr (.inr h3))]
  refine zfU ?_ (by rw [hE]; decide)
  rw [hE]
  refine fnI fun w0 A => ?_
  refine G [10] ?_
  refine jcr ?_
  refine cK hC ?_
  refine G [5, 1, 7, 3, 2, 3, 5] ?_
  refine zaa (ze5 (show _ = 1099511627776 - d.now from IntWalk.i64_in _ (by omega))) rfl rfl ?_
  refine G [0, 4, 11, 9, 0] ?_
  exact yE
 have hE : tkE d n = 0 := by rw [hE', if_neg (by omega)]
 refine tk_done hE ?_
 have hK := dmCopyR_s d ok
 have hZ := hZ h0
 have hok := ok.psN
 obtain ⟨d', hd⟩ : ∃ d' : DM, d' = { d with now := d.now + n } := ⟨_, rfl⟩
 have hw : d'.now = d.now + n := by rw [hd]
 have hD : FnO prog 11 [.ref 0 0] [(0, moB d' 7), (2, .un)] [(0, moB d' 7)] (.tup [.agg (moD d' (.row 1)), .row 7, .p (.v (.int .i64 0))]) := modone_s d' (by rw [hd]; exact g.last)
 rw [← hd, ← hw]
 refine fnI fun w0 A => ?_
 refine G [10] ?_
 refine jcr ?_
 refine cK hC ?_
 refine G [5, 1, 7, 3, 2, 3, 5] ?_
 refine zaa (ze5 (show _ = 1099511627776 - d.now from IntWalk.i64_in _ (by omega))) rfl rfl ?_
 refine G [0, 3, 6] ?_
 refine jcr ?_
 refine cK hK ?_
 refine jdz (zcB pl43 zr43 rfl rfl) ?_
 refine jdA (a_box (X := .agg (moV d (.row 35) (.p (.v (.slice none 0 0))))) 37 rfl) ?_
 refine G [10] ?_
 refine zaa (za3 (show _ = d'.now from by rw [hw]; exact IntWalk.i64_in _ (by omega))) rfl rfl ?_
 refine G [3] ?_
 refine zab (zb3 (es := moV d' (.row 35) (.p (.v (.slice none 0 0)))) sz3 rfl rfl (Nat.le_of_ble_eq_true rfl) (by rw [hd]; rfl)) rfl rfl ⟨rfl, trivial⟩ ?_
 refine zac (zaz (za8 (re_nilB 37 15 7 64 3 rfl rfl rfl) ?_))
 refine G [12] ?_
 refine zag (fun m st => ∃ i : Nat, m + i = d.ps.length ∧ st = St.of [(4, .ref 204 0), (8, .ref 0 0), (53, .p (.v (.int .i64 d.ps.length))), (54, .p (.v (.int .i64 i)))] [(0, .box 43 (moV d' (.row 1) (.row 7))), (1, .row 56 41 d.ps.length ((tkP d'.now d.ps i).flatMap ST.pv)), (7, .row 64 3 (tkQ d'.now Z d.ps i).length ((tkQ d'.now Z d.ps i).flatMap LR.pv)), (204, .box 32 zdmC)]) d.ps.length ?_ ?_
 ·refine ⟨_, zah (fun o => bif Nat.beq o 0 then 37 else bif Nat.beq o 1 then 35 else bif Nat.beq o 204 then 4 else o) _ _ ?_ ?_ rfl, 0, by omega, rfl⟩
  ·exact jak
  ·exact jaU
 rintro m st ⟨i, hi, rfl⟩
 refine G [5] ?_
 refine cX (fun h => ?_) fun h => ?_
 ·have hlt : i < d.ps.length := by simp at h; omega
  clear h
  obtain ⟨s, hs⟩ : ∃ s, d.ps[i]? = some s := ⟨d.ps[i], List.getElem?_eq_getElem hlt⟩
  obtain ⟨p, hp⟩ : ∃ p, d.c.ps[i]? = some p := ⟨d.c.ps[i]'(by rw [← g.same]; exact hlt), List.getElem?_eq_getElem (by rw [← g.same]; exact hlt)⟩
  have hat := tkP_at d'.now hs
  have hlen := zh3 d'.now d.ps i
  have hnext := tkP_next d'.now hs
  have hql := zh2 d'.now Z d.ps i
  have hq1 := @tkQ_yes d'.now Z d.ps i s hs
  have hq0 := @tkQ_no d'.now Z d.ps i s hs
  have hbo := g.born i s hs
  have hhr := zg3 (g.hand i s hs)
  obtain ⟨m0, e0, e1, hH, _, hW, _⟩ := (hZ i s p hs hp).both
  have hg6 := g.n6
  have hc6 := g.c6
  obtain ⟨P, hP⟩ : ∃ P, P = tkP d'.now d.ps i := ⟨_, rfl⟩
  rw [← hP] at hat hlen hnext
  rw [← hP]
  have hfl : ∀ x : ST, ((P.set i x).flatMap ST.pv).length = d.ps.length * 41 := fun x => by rw [zaZ (f := ST.pv) (k := 41) (fun _ => rfl), List.length_set, hlen]
  have hfl0 : (P.flatMap ST.pv).length = d.ps.length * 41 := by rw [zaZ (f := ST.pv) (k := 41) (fun _ => rfl), hlen]
  have hPi : i < P.length := by rw [hlen]; exact hlt
  have hxa : ∀ x : ST, (P.set i x)[i]? = some x := fun x => by rw [List.getElem?_set_self hPi]
  have hP0 : P = P.set i (tkJ d'.now s 0) := by
   apply List.ext_getElem?
   intro q
   rw [List.getElem?_set]
   by_cases e : i = q
   ·subst e
    rw [if_pos rfl, if_pos hPi, hat]
    rfl
   ·rw [if_neg e]
  refine G [34] ?_
  refine jdz (zcV underlying58 zr58 rfl sz57 rfl) ?_
  refine G [3] ?_
  refine zag (fun m' st => ∃ j : Nat, m' + j = 3 ∧ st = St.of [(4, .ref 204 0), (8, .ref 0 0), (9, .p (.v (.int .i64 i))), (10, .ref 1 (i * 41)), (53, .p (.v (.int .i64 d.ps.length))), (54, .p (.v (.int .i64 i))), (76, .agg (refs3 (i * 41))), (77, .p (.v (.int .i64 j)))] [(0, .box 43 (moV d' (.row 1) (.row 7))), (1, .row 56 41 d.ps.length ((P.set i (tkJ d'.now s j)).flatMap ST.pv)), (7, .row 64 3 (tkQ d'.now Z d.ps i).length ((tkQ d'.now Z d.ps i).flatMap LR.pv)), (204, .box 32 zdmC)]) 3 ?_ ?_
  ·refine jcS ?_ ?_
   ·exact jak
   ·exact ⟨⟨rfl, rfl⟩, ⟨by rw [← hP0]; rfl, rfl⟩, ⟨rfl, rfl⟩, ⟨rfl, rfl⟩, trivial⟩
  rintro m' st ⟨j, hj, rfl⟩
  refine G [5] ?_
  refine cX (fun h => ?_) fun h => ?_
  ·have hj3 : j < 3 := by simp at h; omega
   clear h
   have hr3 := refs3_at (i * 41) j hj3
   have hb := hbo j
   have hsz := hfl (tkJ d'.now s j)
   have hld : ∀ q, q < 11 → ((P.set i (tkJ d'.now s j)).flatMap ST.pv)[i * 41 + (2 + j * 11) + q]? = (zc2 s.a s.b s.c j).pv[q]? := fun q hq => by
    rw [Nat.add_assoc, fm_get (f := ST.pv) (k := 41) (fun _ => rfl) (hxa _) (by omega), tkJ_at _ _ _ _ hj3 hq]
   have hl0 := hld 0 (by decide)
   have hl5 := hld 5 (by decide)
   have hst : setR ((P.set i (tkJ d'.now s j)).flatMap ST.pv) (i * 41 + (2 + j * 11)) (zbX d'.now (zc2 s.a s.b s.c j)).pv = (P.set i (tkJ d'.now s (j + 1))).flatMap ST.pv := by
    rw [zef (f := ST.pv) (k := 41) (fun _ => rfl) (hxa _) (by show 2 + j * 11 + 11 ≤ 41; omega) (tkJ_set d'.now s j hj3), List.set_set]
   have hkeep := tkJ_keep d'.now s j hj3
   clear hld
   generalize zc2 s.a s.b s.c j = k at *
   generalize tkJ d'.now s j = x0 at *
   obtain ⟨lv, se, ta, mi, th, bo, co, s1, s2, s3, fi⟩ := k
   dsimp only at hb
   change _ = some (PV.v (.bool lv)) at hl0
   change _ = some (PV.v (.int .i64 bo)) at hl5
   cases lv with
   | false =>
    have hk2 : (P.set i (tkJ d'.now s (j + 1))).flatMap ST.pv = (P.set i x0).flatMap ST.pv := by rw [hkeep (lateK_off rfl)]
    clear hkeep hst
    generalize (P.set i x0).flatMap ST.pv = T at *
    refine G [5] ?_
    refine zaa (zcE underlying58 sz57 underlying57 rfl (by omega) (by omega) hr3) rfl rfl ?_
    refine G [7] ?_
    refine jdA (zaO U4 rfl hl0) ?_
    refine G [20, 9, 0] ?_
    refine ⟨m' - 1, by omega, _, zah id _ _ ?_ ?_ rfl, j + 1, by omega, rfl⟩
    ·(repeat (first | exact trivial | (refine ⟨⟨(by first | rfl | (simp; done) | (simp; omega)), rfl⟩, ?_⟩)))
    ·exact ⟨⟨rfl, rfl⟩, ⟨by rw [hk2]; rfl, rfl⟩, ⟨rfl, rfl⟩, ⟨rfl, rfl⟩, trivial⟩
   | true =>
    by_cases ht : 180 ≤ d'.now - bo
    ·rw [lateK_yes rfl ht] at hst
     generalize hk2 : (P.set i (tkJ d'.now s (j + 1))).flatMap ST.pv = T' at *
     generalize (P.set i x0).flatMap ST.pv = T at *
     refine G [5] ?_
     refine zaa (zcE underlying58 sz57 underlying57 rfl (by omega) (by omega) hr3) rfl rfl ?_
     refine G [7] ?_
     refine jdA (zaO U4 rfl hl0) ?_
     refine G [9] ?_
     refine jdA (zaO U3 rfl hl5) ?_
     refine zaa (ze5 (show _ = d'.now - bo from IntWalk.i64_in _ (by omega))) rfl rfl ?_
     refine G [0, 4, 3] ?_
     skip
     refine G [4] ?_
     refine zab (zbB (Y := .agg KY0.cells) (ys := KY0.pv) sz49 rfl rfl rfl (by omega) hst) rfl rfl ⟨rfl, trivial⟩ ?_
     refine G [5, 9, 0] ?_
     refine ⟨m' - 1, by omega, _, zah id _ _ ?_ ?_ rfl, j + 1, by omega, rfl⟩
     ·(repeat (first | exact trivial | (refine ⟨⟨(by first | rfl | (simp; done) | (simp; omega)), rfl⟩, ?_⟩)))
     ·exact ⟨⟨rfl, rfl⟩, ⟨by rw [hk2]; rfl, rfl⟩, ⟨rfl, rfl⟩, ⟨rfl, rfl⟩, trivial⟩
    ·have hk2 : (P.set i (tkJ d'.now s (j + 1))).flatMap ST.pv = (P.set i x0).flatMap ST.pv := by rw [hkeep (lateK_no rfl ht)]
     clear hkeep hst
     generalize (P.set i x0).flatMap ST.pv = T at *
     refine G [5] ?_
     refine zaa (zcE underlying58 sz57 underlying57 rfl (by omega) (by omega) hr3) rfl rfl ?_
     refine G [7] ?_
     refine jdA (zaO U4 rfl hl0) ?_
     refine G [9] ?_
     refine jdA (zaO U3 rfl hl5) ?_
     refine zaa (ze5 (show _ = d'.now - bo from IntWalk.i64_in _ (by omega))) rfl rfl ?_
     refine G [0, 3, 8, 9, 0] ?_
     refine ⟨m' - 1, by omega, _, zah id _ _ ?_ ?_ rfl, j + 1, by omega, rfl⟩
     ·(repeat (first | exact trivial | (refine ⟨⟨(by first | rfl | (simp; done) | (simp; omega)), rfl⟩, ?_⟩)))
     ·exact ⟨⟨rfl, rfl⟩, ⟨by rw [hk2]; rfl, rfl⟩, ⟨rfl, rfl⟩, ⟨rfl, rfl⟩, trivial⟩
  have hj3 : j = 3 := by simp at h; omega
  clear h
  subst hj3
  rw [show tkJ d'.now s 3 = tkL d'.now s from rfl]
  have hxL := hxa (tkL d'.now s)
  have hhd : (((P.set i (tkL d'.now s)).flatMap ST.pv).drop (i * 41 + 35)).take 5 = HS.pv s.h := ziu (f := ST.pv) (k := 41) (fun _ => rfl) hxL (q := 35) (n := 5) (by decide)
  have hsz := hfl (tkL d'.now s)
  have hu1 : setR ((P.set i (tkL d'.now s)).flatMap ST.pv) (i * 41 + 35) HS0.pv = (P.set i { tkL d'.now s with h := HS0 }).flatMap ST.pv := by
   exact jbQ
  have hu2 : setR ((P.set i { tkL d'.now s with h := HS0 }).flatMap ST.pv) (i * 41 + 40) [.sl 0 3 []] = (P.set i { tkL d'.now s with h := HS0, q := [] }).flatMap ST.pv := by
   exact jbr
  have hsz2 := hfl { tkL d'.now s with h := HS0 }
  cases hlv : s.h.lv with
  | false =>
   obtain ⟨e2, e3⟩ := tkS_no (now := d'.now) hlv
   have hN : (tkP d'.now d.ps (i + 1)).flatMap ST.pv = (P.set i (tkL d'.now s)).flatMap ST.pv := by rw [← hnext, e2]
   have hQ := hq0 e3
   unfold HS.pv at hhd
   rw [hlv] at hhd
   clear hu1 hu2 hsz2
   generalize (P.set i (tkL d'.now s)).flatMap ST.pv = T at *
   refine G [6] ?_
   refine zab (zb8 U53 rfl sz53 (by omega) (hhd)) rfl rfl ⟨rfl, trivial⟩ ?_
   refine jdA (zaX 13 zr53 rfl) ?_
   refine jdA (zaf (Y := .agg [.p (.v (.bool false)), .p (.v (.int .i64 s.h.mine)), .p (.v (.string s.h.nc)), .p (.v (.int .i64 s.h.b)), .p (.v (.int .i64 s.h.s))]) sz53 rfl rfl (Nat.eq_of_beq_eq_true rfl)) ?_
   refine G [15, 9, 0] ?_
   refine ⟨m - 1, by omega, _, zah id _ _ ?_ ?_ rfl, i + 1, by omega, rfl⟩
   ·(repeat (first | exact trivial | (refine ⟨⟨(by first | rfl | (simp; done) | (simp; omega)), rfl⟩, ?_⟩)))
   ·exact ⟨⟨rfl, rfl⟩, ⟨by rw [hN]; rfl, rfl⟩, ⟨by rw [hQ]; rfl, rfl⟩, ⟨rfl, rfl⟩, trivial⟩
  | true =>
   unfold HS.pv at hhd
   rw [hlv] at hhd
   by_cases hgu : 20 ≤ d'.now - s.h.b
   ·obtain ⟨e2, e3⟩ := tkS_up hlv hgu
    have hN : (tkP d'.now d.ps (i + 1)).flatMap ST.pv = (P.set i { tkL d'.now s with h := HS0, q := [] }).flatMap ST.pv := by rw [← hnext, e2]
    have hQ := hq0 e3
    generalize (P.set i { tkL d'.now s with h := HS0, q := [] }).flatMap ST.pv = T2 at *
    generalize (P.set i { tkL d'.now s with h := HS0 }).flatMap ST.pv = T1 at *
    generalize (P.set i (tkL d'.now s)).flatMap ST.pv = T at *
    refine G [6] ?_
    refine zab (zb8 U53 rfl sz53 (by omega) (hhd)) rfl rfl ⟨rfl, trivial⟩ ?_
    refine jdA (zaX 13 zr53 rfl) ?_
    refine jdA (zaf (Y := .agg [.p (.v (.bool true)), .p (.v (.int .i64 s.h.mine)), .p (.v (.string s.h.nc)), .p (.v (.int .i64 s.h.b)), .p (.v (.int .i64 s.h.s))]) sz53 rfl rfl (Nat.eq_of_beq_eq_true rfl)) ?_
    refine G [19] ?_
    refine zaa (ze5 (show _ = d'.now - s.h.b from IntWalk.i64_in _ (by omega))) rfl rfl ?_
    refine G [0, 4, 3] ?_
    skip
    refine G [6] ?_
    refine zab (zbB (Y := .agg HS0.cells) (ys := HS0.pv) sz53 rfl rfl rfl (by omega) hu1) rfl rfl ⟨rfl, trivial⟩ ?_
    refine G [2] ?_
    refine zab (zbB (Y := .p (.v (.slice none 0 0))) (ys := [.v (.slice none 0 0)]) sz54 rfl rfl rfl (by omega) rfl) rfl rfl ⟨rfl, trivial⟩ ?_
    refine zac (zbz (zbz (zaz (za8 (re_rowNil 1 (i * 41 + 40) 3 rfl hu2) ?_))))
    skip
    refine G [4, 9, 0] ?_
    refine ⟨m - 1, by omega, _, zah id _ _ ?_ ?_ rfl, i + 1, by omega, rfl⟩
    ·(repeat (first | exact trivial | (refine ⟨⟨(by first | rfl | (simp; done) | (simp; omega)), rfl⟩, ?_⟩)))
    ·exact ⟨⟨rfl, rfl⟩, ⟨by rw [hN]; rfl, rfl⟩, ⟨by rw [hQ]; rfl, rfl⟩, ⟨rfl, rfl⟩, trivial⟩
   clear hu1 hu2 hsz2
   by_cases hre : 5 ≤ d'.now - s.h.s
   ·obtain ⟨e2, e3⟩ := tkS_again hlv hgu hre
    have hA : FnO prog 10 [.ref 0 0, .p (.v (.int .i64 i))] [(0, .live (.box 43 (moV d' (.row 1) (.row 7)))), (1, .live (.row 56 41 d.ps.length ((P.set i (tkL d'.now s)).flatMap ST.pv))), (7, .live (.row 64 3 (tkQ d'.now Z d.ps i).length ((tkQ d'.now Z d.ps i).flatMap LR.pv))), (4, .un), (5, .un), (6, .un), (29, .un), (30, .un)]
      [(0, .live (.box 43 (moV d' (.row 1) (.row 30)))), (1, .live (.row 56 41 d.ps.length ((tkP d'.now d.ps (i + 1)).flatMap ST.pv))), (7, .dead), (30, .live (.row 64 3 (tkQ d'.now Z d.ps (i + 1)).length ((tkQ d'.now Z d.ps (i + 1)).flatMap LR.pv)))] (.tup []) := by
     have h := moagainD_s d' (P.set i (tkL d'.now s)) (tkQ d'.now Z d.ps i) i _ hxL p (by rw [hd]; exact hp) m0 e0 (by rw [hd]; exact hH) _ e1 hW (by rw [List.length_set, hlen]; exact hok) (by omega) (by rw [hd]; show d.c.ps.length ≤ 1048576; omega)
     have e4 : (P.set i (tkL d'.now s)).set i { tkL d'.now s with h := { s.h with s := d'.now } } = tkP d'.now d.ps (i + 1) := by rw [List.set_set, ← e2, hnext]
     change FnO _ _ _ _ [_, (1, moS ((P.set i (tkL d'.now s)).set i { tkL d'.now s with h := { s.h with s := d'.now } })), _, (30, moL (tkQ d'.now Z d.ps i ++ [⟨⟨#[]⟩, s.ep, Z i⟩]))] _ at h
     rw [e4, ← hq1 e3] at h
     unfold moS moL moB at h
     rw [List.length_set, hlen, zh3] at h
     exact h
    generalize hT1 : (tkP d'.now d.ps (i + 1)).flatMap ST.pv = T1 at *
    generalize hL1 : (tkQ d'.now Z d.ps (i + 1)).flatMap LR.pv = L1 at *
    generalize hN1 : (tkQ d'.now Z d.ps (i + 1)).length = N1 at *
    generalize (tkQ d'.now Z d.ps i).flatMap LR.pv = L at *
    generalize (tkQ d'.now Z d.ps i).length = N at *
    generalize (P.set i (tkL d'.now s)).flatMap ST.pv = T at *
    refine G [6] ?_
    refine zab (zb8 U53 rfl sz53 (by omega) (hhd)) rfl rfl ⟨rfl, trivial⟩ ?_
    refine jdA (zaX 13 zr53 rfl) ?_
    refine jdA (zaf (Y := .agg [.p (.v (.bool true)), .p (.v (.int .i64 s.h.mine)), .p (.v (.string s.h.nc)), .p (.v (.int .i64 s.h.b)), .p (.v (.int .i64 s.h.s))]) sz53 rfl rfl (Nat.eq_of_beq_eq_true rfl)) ?_
    refine G [19] ?_
    refine zaa (ze5 (show _ = d'.now - s.h.b from IntWalk.i64_in _ (by omega))) rfl rfl ?_
    refine G [0, 3, 12] ?_
    refine zaa (ze5 (show _ = d'.now - s.h.s from IntWalk.i64_in _ (by omega))) rfl rfl ?_
    refine G [0, 4, 3] ?_
    skip
    refine G [3] ?_
    refine zbe (hA) rfl rfl func10 rfl rfl (by repeat (first | exact trivial | refine ⟨rfl, ?_⟩)) rfl ?_
    refine G [5, 9, 0] ?_
    refine ⟨m - 1, by omega, _, zah (fun o => bif Nat.beq o 7 then 30 else o) _ _ ?_ ?_ rfl, i + 1, by omega, rfl⟩
    ·(repeat (first | exact trivial | (refine ⟨⟨(by first | rfl | (simp; done) | (simp; omega)), rfl⟩, ?_⟩)))
    ·exact ⟨⟨rfl, rfl⟩, ⟨by rw [hT1]; rfl, rfl⟩, ⟨by rw [hL1, hN1]; rfl, rfl⟩, ⟨rfl, rfl⟩, trivial⟩
   obtain ⟨e2, e3⟩ := tkS_wait hlv hgu hre
   have hN : (tkP d'.now d.ps (i + 1)).flatMap ST.pv = (P.set i (tkL d'.now s)).flatMap ST.pv := by rw [← hnext, e2]
   have hQ := hq0 e3
   generalize (P.set i (tkL d'.now s)).flatMap ST.pv = T at *
   refine G [6] ?_
   refine zab (zb8 U53 rfl sz53 (by omega) (hhd)) rfl rfl ⟨rfl, trivial⟩ ?_
   refine jdA (zaX 13 zr53 rfl) ?_
   refine jdA (zaf (Y := .agg [.p (.v (.bool true)), .p (.v (.int .i64 s.h.mine)), .p (.v (.string s.h.nc)), .p (.v (.int .i64 s.h.b)), .p (.v (.int .i64 s.h.s))]) sz53 rfl rfl (Nat.eq_of_beq_eq_true rfl)) ?_
   refine G [19] ?_
   refine zaa (ze5 (show _ = d'.now - s.h.b from IntWalk.i64_in _ (by omega))) rfl rfl ?_
   refine G [0, 3, 12] ?_
   refine zaa (ze5 (show _ = d'.now - s.h.s from IntWalk.i64_in _ (by omega))) rfl rfl ?_
   refine G [0, 3, 8, 9, 0] ?_
   refine ⟨m - 1, by omega, _, zah id _ _ ?_ ?_ rfl, i + 1, by omega, rfl⟩
   ·(repeat (first | exact trivial | (refine ⟨⟨(by first | rfl | (simp; done) | (simp; omega)), rfl⟩, ?_⟩)))
   ·exact ⟨⟨rfl, rfl⟩, ⟨by rw [hN]; rfl, rfl⟩, ⟨by rw [hQ]; rfl, rfl⟩, ⟨rfl, rfl⟩, trivial⟩
 have hge : i = d.ps.length := by simp at h; omega
 clear h
 subst hge
 rw [tkP_all]
 refine G [4] ?_
 refine zbe (hD) rfl rfl func11 rfl rfl (by repeat (first | exact trivial | refine ⟨rfl, ?_⟩)) rfl ?_
 refine G [3] ?_
 refine jdA (zaf (Y := .agg (moD d' (.row 1))) sz32 rfl rfl (Nat.eq_of_beq_eq_true rfl)) ?_
 refine G [4, 9, 0] ?_
 refine yT (fun o => bif Nat.beq o 0 then 1 else 7) ?_ ?_
 ·exact rfl
 ·exact ⟨⟨rfl, rfl⟩, ⟨rfl, rfl⟩, trivial⟩
end Go.Proofs.YtbjdjclkbjpebaaGreatDoor
