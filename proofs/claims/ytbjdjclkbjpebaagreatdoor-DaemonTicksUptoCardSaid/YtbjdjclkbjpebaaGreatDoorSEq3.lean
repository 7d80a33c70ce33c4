/- States, typed, as data. -/
import Derived.Test.YtbjdjclkbjpebaaGreatDoorSTc1
import Derived.Test.YtbjdjclkbjpebaaGreatDoorSUtZ
import Derived.Test.YtbjdjclkbjpebaaGreatDoorSMa3
import Derived.Test.YtbjdjclkbjpebaaGreatDoorSTab
import Derived.Test.YtbjdjclkbjpebaaGreatDoorSEq2
namespace Go.Proofs.YtbjdjclkbjpebaaGreatDoor
open Tryz
open Go.RowKit Go.Sort
set_option linter.unusedVariables false
set_option linter.unusedSimpArgs false
set_option maxRecDepth 100000
def PQ.OK (p : PQ) : Prop := p.xs.length ≤ 1048576 ∧ isB p.xs
def ST.B (s : ST) : Prop := s.q.length ≤ 1048576 ∧ ∀ p ∈ s.q, isB p.xs
theorem PQ.of_ty {n : Nat} {ps : List PV} (h : Ty prog (n + 5) 108 ps) (hb : PV.bdL 1048576 ps) : ∃ p : PQ, p.OK ∧ ps = p.pv := by
 obtain ⟨_, rfl, x0, _, rfl, t0, x1, _, rfl, t1, x2, _, rfl, t2, rfl⟩ := zbh (ts := [86, 86, 62]) (by kernel_rfl) h
 obtain ⟨a0, rfl, w0⟩ := zbm U86 t0
 obtain ⟨a1, rfl, w1⟩ := zbm U86 t1
 obtain ⟨xs, rfl, _, hB⟩ := ty_bytes U62 U5 (by kernel_rfl) t2
 simp only [List.flatten_cons, List.flatten_nil, List.append_nil, List.singleton_append, List.cons_append, List.nil_append, PV.bdL, PV.bd, and_true] at hb
 exact ⟨⟨a0, a1, xs⟩, ⟨hb.2.2.1, hB⟩, rfl⟩
theorem ST.of_tyB {n : Nat} {ps : List PV} (h : Ty prog (n + 7) 56 ps) (hb : PV.bdL 1048576 ps) : ∃ s : ST, (s.OK ∧ s.B) ∧ ps = s.pv := by
 obtain ⟨_, rfl, x0, _, rfl, t0, x1, _, rfl, t1, x2, _, rfl, t2, x3, _, rfl, t3, x4, _, rfl, t4, rfl⟩ := zbh (ts := [9, 9, 51, 53, 54]) (by kernel_rfl) h
 obtain ⟨a0, rfl, _⟩ := zbJ U9 t0
 obtain ⟨a1, rfl, _⟩ := zbJ U9 t1
 obtain ⟨_, rfl, y0, _, rfl, u0, y1, _, rfl, u1, y2, _, rfl, u2, rfl⟩ := zbh (ts := [49, 49, 49]) (by kernel_rfl) t2
 obtain ⟨a, oa, rfl⟩ := KY.of_ty u0
 obtain ⟨b, ob, rfl⟩ := KY.of_ty u1
 obtain ⟨c, oc, rfl⟩ := KY.of_ty u2
 obtain ⟨x, _, _, _, rfl⟩ := HS.of_ty t3
 obtain ⟨L, rfl, h2, h3⟩ := zfd (sz := 3) U54 (by kernel_rfl) t4
 have hbq := zbx hb
 have hb1 := hbq [.v (.string a1)] (by simp)
 have hb4 := hbq [.sl L.length 3 L.flatten] (by simp)
 clear hb hbq
 simp only [PV.bdL, PV.bd, and_true] at hb1 hb4
 obtain ⟨l, k1, k2, k3⟩ := zfG (f := PQ.pv) (Q := PQ.OK) (L := L) fun x hx => by
  obtain ⟨s, h4, h5⟩ := PQ.of_ty (n := n) (h3 x hx).1 (zbx hb4.2 x hx)
  exact ⟨s, h4, h5⟩
 have hll : l.length ≤ 1048576 := by rw [k1]; exact hb4.1
 refine ⟨⟨a0, a1, a, b, c, x, l⟩, ⟨⟨?_, oa, ob, oc, hll, fun p hp => (k3 p hp).1⟩, hll, fun p hp => (k3 p hp).2⟩, ?_⟩
 ·show a1.size < _
  omega
 ·simp only [ST.pv, zdP, k1, k2, List.flatten_cons, List.flatten_nil, List.append_nil, List.append_assoc, List.singleton_append, List.cons_append, List.nil_append]
theorem ST.of_ty {n : Nat} {ps : List PV} (h : Ty prog (n + 7) 56 ps) (hb : PV.bdL 1048576 ps) : ∃ s : ST, s.OK ∧ ps = s.pv := by
 obtain ⟨s, h1, h2⟩ := ST.of_tyB h hb
 exact ⟨s, h1.1, h2⟩
theorem ST.list_tyB {n : Nat} {ps : List PV} (h : Ty prog (n + 8) 26 ps) (hb : PV.bdL 1048576 ps) : ∃ l : List ST, (∀ s ∈ l, s.OK ∧ s.B) ∧ l.length ≤ 1048576 ∧ ps = [.sl l.length 41 (l.flatMap ST.pv)] := by
 obtain ⟨L, rfl, h2, h3⟩ := zfd (sz := 41) U26 (by kernel_rfl) h
 simp only [PV.bdL, PV.bd, and_true] at hb
 obtain ⟨l, k1, k2, k3⟩ := zfG (f := ST.pv) (Q := fun s : ST => s.OK ∧ s.B) (L := L) fun x hx => by
  obtain ⟨s, h4, h5⟩ := ST.of_tyB (n := n) (h3 x hx).1 (zbx hb.2 x hx)
  exact ⟨s, h4, h5⟩
 exact jci
theorem ST.list_ty {n : Nat} {ps : List PV} (h : Ty prog (n + 8) 26 ps) (hb : PV.bdL 1048576 ps) : ∃ l : List ST, (∀ s ∈ l, s.OK) ∧ l.length ≤ 1048576 ∧ ps = [.sl l.length 41 (l.flatMap ST.pv)] := by
 obtain ⟨l, h1, h2, h3⟩ := ST.list_tyB h hb
 exact ⟨l, fun s hs => (h1 s hs).1, h2, h3⟩
end Go.Proofs.YtbjdjclkbjpebaaGreatDoor
namespace Go.Proofs.YtbjdjclkbjpebaaGreatDoor
open Go.RowKit Go.Sort
set_option linter.unusedVariables false
set_option linter.unusedSimpArgs false
set_option maxRecDepth 100000
theorem same_s (n m : Nat) (xs ys : List Int) : Fn Tryz.prog 22 [.p (.sl n 1 (bs xs)), .p (.sl m 1 (bs ys))] (.p (.v (.bool (decide (strOfNums xs = strOfNums ys))))) [] := by
 refine zb7 Tryz.func22 rfl (Nat.le_of_ble_eq_true rfl) fun w0 A => ?_
 refine zad (zaF (by kernel_rfl) ?_)
 (refine zaa (zaw (r := .p _)) rfl rfl ?_)
 refine zac (zad (zaF (by kernel_rfl) ?_))
 (refine zaa (zav (r := .p _)) rfl rfl ?_)
 (refine zab (zfz Tryz.underlying62 Tryz.underlying5 Tryz.underlying9 (zbn) rfl rfl) rfl rfl trivial ?_)
 (refine zaa (zav (r := .p _)) rfl rfl ?_)
 (refine zab (zfz Tryz.underlying62 Tryz.underlying5 Tryz.underlying9 (zbn) rfl rfl) rfl rfl trivial ?_)
 (refine zaa zhY rfl rfl ?_)
 (refine zaa (zaw (r := .p _)) rfl rfl ?_)
 refine zac (zaE (⟨(by first | exact .inl rfl | exact .inr rfl), _, (fun o => o), (.tmp _ _ _ _ rfl .nil), ?_, rfl, ?_, rfl⟩))
 ·exact rfl
 ·exact trivial
def PQ.cells (p : PQ) : List AV := [.p (.v (.int .u32 p.a)), .p (.v (.int .u32 p.b)), .p (.sl p.xs.length 1 (bs p.xs))]
end Go.Proofs.YtbjdjclkbjpebaaGreatDoor
namespace Go.Proofs.YtbjdjclkbjpebaaGreatDoor
open Tryz
open Go.RowKit Go.Sort
set_option linter.unusedVariables false
set_option linter.unusedSimpArgs false
set_option maxRecDepth 100000
noncomputable def pqB (x y : PQ) : Bool := ((x.a == y.a) && (x.b == y.b)) && decide (strOfNums x.xs = strOfNums y.xs)
theorem pqB_T {x y : PQ} (h : x = y) : pqB x y = true := by
 subst h
 unfold pqB
 simp
theorem pqB_F {x y : PQ} (hx : isB x.xs) (hy : isB y.xs) (h : x ≠ y) : pqB x y = false := by
 cases hq : pqB x y with
 | false => rfl
 | true =>
  exfalso
  obtain ⟨a, b, xs⟩ := x
  obtain ⟨c, d, ys⟩ := y
  unfold pqB at hq
  simp at hq
  obtain ⟨⟨h1, h2⟩, h3⟩ := hq
  have h4 := zie hx hy h3
  dsimp only at h4
  exact h (by rw [h1, h2, h4])
theorem pql_d (x y : PQ) : Fn prog 53 [.agg x.cells, .agg y.cells] (.p (.v (.bool (pqB x y)))) [] := by
 obtain ⟨a1, b1, x1⟩ := x
 obtain ⟨a2, b2, x2⟩ := y
 have hS := same_s x1.length x2.length x1 x2
 show Fn prog _ [.agg [.p (.v (.int .u32 a1)), .p (.v (.int .u32 b1)), .p (.sl x1.length 1 (bs x1))], .agg [.p (.v (.int .u32 a2)), .p (.v (.int .u32 b2)), .p (.sl x2.length 1 (bs x2))]] (.p (.v (.bool (((a1 == a2) && (b1 == b2)) && decide (strOfNums x1 = strOfNums x2))))) _
 exact ja7
theorem pqsl_d (l m : List PQ) (hl : l.length ≤ 4611686018427387904) (hm : m.length ≤ 4611686018427387904) (okl : ∀ p ∈ l, isB p.xs) (okm : ∀ p ∈ m, isB p.xs) : Fn prog 52 [.p (.sl l.length 3 (l.flatMap PQ.pv)), .p (.sl m.length 3 (m.flatMap PQ.pv)), .fn 53 []] (.p (.v (.bool (eqB l m)))) [] := by
 by_cases hlen : l.length = m.length
 rotate_left
 ·rw [ze3 (fun e => hlen (by rw [e]))]
  generalize l.flatMap PQ.pv = L
  generalize m.flatMap PQ.pv = M
  exact jay
 obtain ⟨E, hE⟩ : ∃ E, eqB l m = E := ⟨_, rfl⟩
 rw [hE]
 refine fnI fun w0 A => ?_
 refine G [11, 3, 11] ?_
 refine zag (fun u st => ∃ i : Nat, u + i = l.length ∧ (∀ j, j < i → l[j]? = m[j]?) ∧ st = St.of [(1, .p (.sl m.length 3 (m.flatMap PQ.pv))), (2, .fn 53 []), (15, .p (.sl l.length 3 (l.flatMap PQ.pv))), (16, .p (.v (.int .i64 l.length))), (17, .p (.v (.int .i64 i)))] []) l.length ?_ ?_
 ·exact jas
 rintro u st ⟨i, hi, hf, rfl⟩
 refine G [5] ?_
 refine cX (fun h => ?_) fun h => ?_
 ·have hlt : i < l.length := by simp at h; omega
  clear h
  obtain ⟨x, hx⟩ : ∃ x, l[i]? = some x := ⟨l[i], List.getElem?_eq_getElem hlt⟩
  obtain ⟨y, hy⟩ : ∃ y, m[i]? = some y := ⟨m[i]'(by omega), List.getElem?_eq_getElem (by omega)⟩
  have hch := zar (f := PQ.pv) (k := 3) (fun _ => rfl) hx
  have hle := zas (f := PQ.pv) (k := 3) (fun _ => rfl) hlt
  have hch2 := zar (f := PQ.pv) (k := 3) (fun _ => rfl) hy
  have hle2 := zas (f := PQ.pv) (k := 3) (fun _ => rfl) (show i < m.length by omega)
  have hbad := zfW hx hy
  have hxy : x = y → l[i]? = m[i]? := fun e => by rw [hx, hy, e]
  have hxm := List.mem_of_getElem? hx
  have hym := List.mem_of_getElem? hy
  have hC := pql_d x y
  generalize l.flatMap PQ.pv = L at *
  generalize m.flatMap PQ.pv = M at *
  refine G [10] ?_
  refine jdA (zaf (Y := .agg x.cells) zd4 rfl rfl (Nat.eq_of_beq_eq_true rfl)) ?_
  refine G [8] ?_
  refine jdA (zaf (Y := .agg y.cells) zd4 rfl rfl (Nat.eq_of_beq_eq_true rfl)) ?_
  refine zac ?_
  by_cases he : x = y
  ·rw [pqB_T he] at hC
   refine G [3] ?_
   refine jdj ?_
   refine jdk ?_
   exact jbk
  ·rw [ze3 (hbad he)] at hE
   subst hE
   rw [pqB_F (okl x hxm) (okm y hym) he] at hC
   refine G [3] ?_
   refine jdj ?_
   refine jdk ?_
   exact jaK
 have hge : i = l.length := by simp at h; omega
 clear h
 subst hge
 rw [zhu (zfX hlen hf)] at hE
 subst hE
 refine jcs ?_
 exact yE
def slV (s : ST) : List Value := s.a.vals ++ s.b.vals ++ s.c.vals
def HS.vals (h : HS) : List Value := [.bool h.lv, .int .i64 h.mine, .string h.nc, .int .i64 h.b, .int .i64 h.s]
noncomputable def stB (x y : ST) : Bool := (((decide (x.key = y.key) && decide (x.ep = y.ep)) && eqL (slV x) (slV y)) && eqL x.h.vals y.h.vals) && eqB x.q y.q
theorem stB_iff {x y : ST} : stB x y = true ↔ x = y := by
 obtain ⟨k, e, a, b, c, h, q⟩ := x
 obtain ⟨k', e', a', b', c', h', q'⟩ := y
 unfold stB
 simp only [Bool.and_eq_true, decide_eq_true_eq, zaQ, zfO]
 constructor
 ·rintro ⟨⟨⟨⟨h1, h2⟩, h3⟩, h4⟩, h5⟩
  obtain ⟨h6, h7⟩ := List.append_inj h3 rfl
  obtain ⟨h8, h9⟩ := List.append_inj h6 rfl
  have ea : a = a' := KY.eqL_iff.1 (zaQ.2 h8)
  have eb : b = b' := KY.eqL_iff.1 (zaQ.2 h9)
  have ec : c = c' := KY.eqL_iff.1 (zaQ.2 h7)
  obtain ⟨v1, v2, v3, v4, v5⟩ := h
  obtain ⟨u1, u2, u3, u4, u5⟩ := h'
  simp [HS.vals] at h4
  obtain ⟨g1, g2, g3, g4, g5⟩ := h4
  rw [h1, h2, ea, eb, ec, h5, g1, g2, g3, g4, g5]
 ·intro h
  cases h
  exact ⟨⟨⟨⟨rfl, rfl⟩, rfl⟩, rfl⟩, rfl⟩
theorem stB_T {x y : ST} (h : x = y) : stB x y = true := stB_iff.2 h
theorem stB_F {x y : ST} (h : x ≠ y) : stB x y = false := by
 cases hq : stB x y with
 | false => rfl
 | true => exact absurd (stB_iff.1 hq) h
theorem stl_d (x y : ST) (hx : x.B) (hy : y.B) : Fn prog 51 [.agg x.cells, .agg y.cells] (.p (.v (.bool (stB x y)))) [] := by
 have hQ := pqsl_d x.q y.q (by have := hx.1; omega) (by have := hy.1; omega) hx.2 hy.2
 clear hx hy
 obtain ⟨k1, e1, a1, b1, c1, h1, q1⟩ := x
 obtain ⟨k2, e2, a2, b2, c2, h2, q2⟩ := y
 dsimp only at hQ
 show Fn prog _ [.agg (stC k1 e1 a1 b1 c1 h1 q1.length (q1.flatMap PQ.pv)), .agg (stC k2 e2 a2 b2 c2 h2 q2.length (q2.flatMap PQ.pv))] (.p (.v (.bool ((((decide (k1 = k2) && decide (e1 = e2)) && eqL (a1.vals ++ b1.vals ++ c1.vals) (a2.vals ++ b2.vals ++ c2.vals)) && eqL h1.vals h2.vals) && eqB q1 q2)))) _
 generalize eqB q1 q2 = bn at *
 generalize q1.flatMap PQ.pv = L1 at *
 generalize q2.flatMap PQ.pv = L2 at *
 generalize q1.length = n1 at *
 generalize q2.length = n2 at *
 refine fnI fun w0 A => ?_
 refine G [19, 2, 2] ?_
 refine mb2 _ rfl rfl (fun hb => (zak U51 rfl sz51 (by first | exact Nat.le_of_ble_eq_true rfl | omega | (simp only [AV.cells, List.length_map]; omega)) (show _ = zc4 a1 b1 c1 from rfl))) (fun _ => ⟨rfl, trivial⟩) ?_
 refine mb2 _ rfl rfl (fun hb => (zat zg9 rfl)) (fun _ => trivial) ?_
 refine mb2 _ rfl rfl (fun hb => (zak U51 rfl sz51 (by first | exact Nat.le_of_ble_eq_true rfl | omega | (simp only [AV.cells, List.length_map]; omega)) (show _ = zc4 a2 b2 c2 from rfl))) (fun _ => ⟨rfl, trivial⟩) ?_
 refine mb2 _ rfl rfl (fun hb => (ze6 U51 rfl rfl (by kernel_rfl) (by kernel_rfl) (by kernel_rfl))) (fun _ => trivial) ?_
 refine G [0, 2, 2] ?_
 refine mb2 _ rfl rfl (fun hb => (zak U53 rfl sz53 (by first | exact Nat.le_of_ble_eq_true rfl | omega | (simp only [AV.cells, List.length_map]; omega)) (show _ = h1.cells from rfl))) (fun _ => ⟨rfl, trivial⟩) ?_
 refine mb2 _ rfl rfl (fun hb => (zat fi56_3 rfl)) (fun _ => trivial) ?_
 refine mb2 _ rfl rfl (fun hb => (zak U53 rfl sz53 (by first | exact Nat.le_of_ble_eq_true rfl | omega | (simp only [AV.cells, List.length_map]; omega)) (show _ = h2.cells from rfl))) (fun _ => ⟨rfl, trivial⟩) ?_
 refine mb2 _ rfl rfl (fun hb => (ze6 U53 rfl rfl (by kernel_rfl) (by kernel_rfl) (by kernel_rfl))) (fun _ => trivial) ?_
 refine G [0, 2, 5] ?_
 refine mb2 _ rfl rfl (fun _ => zbc func52 rfl rfl (hQ) (by first | rfl | simp [AV.okInL, AV.okIn, zay]) rfl) (fun _ => trivial) ?_
 refine G [0, 2, 3, 9, 0] ?_
 exact yE
theorem stsl_d (l m : List ST) (hl : l.length ≤ 4611686018427387904) (hm : m.length ≤ 4611686018427387904) (okl : ∀ s ∈ l, s.B) (okm : ∀ s ∈ m, s.B) : Fn prog 50 [.p (.sl l.length 41 (l.flatMap ST.pv)), .p (.sl m.length 41 (m.flatMap ST.pv)), .fn 51 []] (.p (.v (.bool (eqB l m)))) [] := by
 by_cases hlen : l.length = m.length
 rotate_left
 ·rw [ze3 (fun e => hlen (by rw [e]))]
  generalize l.flatMap ST.pv = L
  generalize m.flatMap ST.pv = M
  exact jay
 obtain ⟨E, hE⟩ : ∃ E, eqB l m = E := ⟨_, rfl⟩
 rw [hE]
 refine fnI fun w0 A => ?_
 refine G [11, 3, 11] ?_
 refine zag (fun u st => ∃ i : Nat, u + i = l.length ∧ (∀ j, j < i → l[j]? = m[j]?) ∧ st = St.of [(1, .p (.sl m.length 41 (m.flatMap ST.pv))), (2, .fn 51 []), (15, .p (.sl l.length 41 (l.flatMap ST.pv))), (16, .p (.v (.int .i64 l.length))), (17, .p (.v (.int .i64 i)))] []) l.length ?_ ?_
 ·exact jas
 rintro u st ⟨i, hi, hf, rfl⟩
 refine G [5] ?_
 refine cX (fun h => ?_) fun h => ?_
 ·have hlt : i < l.length := by simp at h; omega
  clear h
  obtain ⟨x, hx⟩ : ∃ x, l[i]? = some x := ⟨l[i], List.getElem?_eq_getElem hlt⟩
  obtain ⟨y, hy⟩ : ∃ y, m[i]? = some y := ⟨m[i]'(by omega), List.getElem?_eq_getElem (by omega)⟩
  have hch := zar (f := ST.pv) (k := 41) (fun _ => rfl) hx
  have hle := zas (f := ST.pv) (k := 41) (fun _ => rfl) hlt
  have hch2 := zar (f := ST.pv) (k := 41) (fun _ => rfl) hy
  have hle2 := zas (f := ST.pv) (k := 41) (fun _ => rfl) (show i < m.length by omega)
  have hbad := zfW hx hy
  have hxy : x = y → l[i]? = m[i]? := fun e => by rw [hx, hy, e]
  have hxm := List.mem_of_getElem? hx
  have hym := List.mem_of_getElem? hy
  have hC := stl_d x y (okl x hxm) (okm y hym)
  generalize l.flatMap ST.pv = L at *
  generalize m.flatMap ST.pv = M at *
  refine G [10] ?_
  refine jdA (zaf (Y := .agg x.cells) sz56 rfl rfl (Nat.eq_of_beq_eq_true rfl)) ?_
  refine G [8] ?_
  refine jdA (zaf (Y := .agg y.cells) sz56 rfl rfl (Nat.eq_of_beq_eq_true rfl)) ?_
  refine zac ?_
  by_cases he : x = y
  ·rw [stB_T he] at hC
   refine G [3] ?_
   refine jcH ?_
   refine jdl ?_
   exact jbk
  ·rw [ze3 (hbad he)] at hE
   subst hE
   rw [stB_F he] at hC
   refine G [3] ?_
   refine jcH ?_
   refine jdl ?_
   exact jaK
 have hge : i = l.length := by simp at h; omega
 clear h
 subst hge
 rw [zhu (zfX hlen hf)] at hE
 subst hE
 refine jcs ?_
 exact yE
theorem sameStates_d (l m : List ST) (hl : l.length ≤ 1048576) (hm : m.length ≤ 1048576) (okl : ∀ s ∈ l, s.B) (okm : ∀ s ∈ m, s.B) : Fn prog 18 [.p (.sl l.length 41 (l.flatMap ST.pv)), .p (.sl m.length 41 (m.flatMap ST.pv))] (.p (.v (.bool (eqB l m)))) [] := by
 have hC := stsl_d l m (by omega) (by omega) okl okm
 clear hl hm okl okm
 generalize eqB l m = bn at *
 generalize l.flatMap ST.pv = L at *
 generalize l.length = N at *
 generalize m.flatMap ST.pv = L' at *
 generalize m.length = N' at *
 exact jbb
end Go.Proofs.YtbjdjclkbjpebaaGreatDoor
