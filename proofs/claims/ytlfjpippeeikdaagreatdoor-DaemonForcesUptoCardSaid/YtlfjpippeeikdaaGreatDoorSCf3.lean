/- States, typed, as data. -/
import Derived.Test.YtlfjpippeeikdaaGreatDoorSTc1
import Derived.Test.YtlfjpippeeikdaaGreatDoorSEq2
set_option linter.all false
namespace Go.Proofs.YtlfjpippeeikdaaGreatDoor
open Tryz
open Go.RowKit Go.Sort
set_option maxRecDepth 100000
def PQ.OK (p : PQ) : Prop := p.xs.length ≤ 1048576 ∧ isB p.xs
def ST.B (s : ST) : Prop := s.q.length ≤ 1048576 ∧ ∀ p ∈ s.q, isB p.xs
theorem PQ.of_ty {n : Nat} {ps : List PV} (h : Ty prog (n + 5) 93 ps) (hb : PV.bdL 1048576 ps) : ∃ p : PQ, p.OK ∧ ps = p.pv := by
 obtain ⟨_, rfl, x0, _, rfl, t0, x1, _, rfl, t1, x2, _, rfl, t2, rfl⟩ := zbi (ts := [80, 80, 91]) qm h
 obtain ⟨a0, rfl, w0⟩ := zbz U80 t0
 obtain ⟨a1, rfl, w1⟩ := zbz U80 t1
 obtain ⟨xs, rfl, _, hB⟩ := ty_bytes U91 U5 qm t2
 simp only [qbn, List.flatten_nil, qaV, qbN, qa2, qbc, PV.bdL, PV.bd, and_true] at hb
 exact ⟨⟨a0, a1, xs⟩, ⟨hb.2.2.1, hB⟩, rfl⟩
theorem ST.of_tyB {n : Nat} {ps : List PV} (h : Ty prog (n + 7) 60 ps) (hb : PV.bdL 1048576 ps) : ∃ s : ST, (s.OK ∧ s.B) ∧ ps = s.pv := by
 obtain ⟨_, rfl, x0, _, rfl, t0, x1, _, rfl, t1, x2, _, rfl, t2, x3, _, rfl, t3, x4, _, rfl, t4, rfl⟩ := zbi (ts := [9, 9, 55, 57, 58]) qm h
 obtain ⟨a0, rfl, _⟩ := zbF U9 t0
 obtain ⟨a1, rfl, _⟩ := zbF U9 t1
 obtain ⟨_, rfl, y0, _, rfl, u0, y1, _, rfl, u1, y2, _, rfl, u2, rfl⟩ := zbi (ts := [53, 53, 53]) qm t2
 obtain ⟨a, oa, rfl⟩ := KY.of_ty u0
 obtain ⟨b, ob, rfl⟩ := KY.of_ty u1
 obtain ⟨c, oc, rfl⟩ := KY.of_ty u2
 obtain ⟨x, _, _, _, rfl⟩ := HS.of_ty t3
 obtain ⟨L, rfl, h2, h3⟩ := zfb (sz := 3) U58 qm t4
 have hbq := zbr hb
 have hb1 := hbq [qg a1] qz
 have hb4 := hbq [.sl L.length 3 L.flatten] qz
 clear hb hbq
 simp only [PV.bdL, PV.bd, and_true] at hb1 hb4
 obtain ⟨l, k1, k2, k3⟩ := zfV (f := PQ.pv) (Q := PQ.OK) (L := L) fun x hx => by
  obtain ⟨s, h4, h5⟩ := PQ.of_ty (n := n) (h3 x hx).1 (zbr hb4.2 x hx)
  exact ⟨s, h4, h5⟩
 have hll : l.length ≤ 1048576 := by rw [k1]; exact hb4.1
 refine ⟨⟨a0, a1, a, b, c, x, l⟩, ⟨⟨?_, oa, ob, oc, hll, fun p hp => (k3 p hp).1⟩, hll, fun p hp => (k3 p hp).2⟩, ?_⟩
 ·show a1.size < _
  omega
 ·simp only [ST.pv, zgX, k1, k2, qbn, List.flatten_nil, qaV, qaY, qbN, qa2, qbc]
theorem ST.of_ty {n : Nat} {ps : List PV} (h : Ty prog (n + 7) 60 ps) (hb : PV.bdL 1048576 ps) : ∃ s : ST, s.OK ∧ ps = s.pv := by
 obtain ⟨s, h1, h2⟩ := ST.of_tyB h hb
 exact ⟨s, h1.1, h2⟩
theorem ST.list_tyB {n : Nat} {ps : List PV} (h : Ty prog (n + 8) 26 ps) (hb : PV.bdL 1048576 ps) : ∃ l : List ST, (∀ s ∈ l, s.OK ∧ s.B) ∧ l.length ≤ 1048576 ∧ ps = [.sl l.length 41 (l.flatMap ST.pv)] := by
 obtain ⟨L, rfl, h2, h3⟩ := zfb (sz := 41) U26 qm h
 simp only [PV.bdL, PV.bd, and_true] at hb
 obtain ⟨l, k1, k2, k3⟩ := zfV (f := ST.pv) (Q := fun s : ST => s.OK ∧ s.B) (L := L) fun x hx => by
  obtain ⟨s, h4, h5⟩ := ST.of_tyB (n := n) (h3 x hx).1 (zbr hb.2 x hx)
  exact ⟨s, h4, h5⟩
 exact jcD
theorem ST.list_ty {n : Nat} {ps : List PV} (h : Ty prog (n + 8) 26 ps) (hb : PV.bdL 1048576 ps) : ∃ l : List ST, (∀ s ∈ l, s.OK) ∧ l.length ≤ 1048576 ∧ ps = [.sl l.length 41 (l.flatMap ST.pv)] := by
 obtain ⟨l, h1, h2, h3⟩ := ST.list_tyB h hb
 exact ⟨l, fun s hs => (h1 s hs).1, h2, h3⟩
end Go.Proofs.YtlfjpippeeikdaaGreatDoor
namespace Go.Proofs.YtlfjpippeeikdaaGreatDoor
open Go.RowKit Go.Sort
set_option maxRecDepth 100000
theorem same_s (n m : Nat) (xs ys : List Int) : Fn Tryz.prog 89 [.p (.sl n 1 (bs xs)), .p (.sl m 1 (bs ys))] (.p (.v (.bool (decide (strOfNums xs = strOfNums ys))))) [] := by
 refine zcN Tryz.func89 rfl (qaA rfl) fun w0 A => ?_
 refine zan (zaA qm ?_)
 (refine zaa (zaQ (r := .p _)) rfl rfl ?_)
 refine zag (zan (zaA qm ?_))
 (refine zaa (zaI (r := .p _)) rfl rfl ?_)
 (refine zab (a_b2s Tryz.underlying91 Tryz.underlying5 Tryz.underlying9 (zdh) rfl rfl) rfl rfl trivial ?_)
 (refine zaa (zaI (r := .p _)) rfl rfl ?_)
 (refine zab (a_b2s Tryz.underlying91 Tryz.underlying5 Tryz.underlying9 (zdh) rfl rfl) rfl rfl trivial ?_)
 (refine zaa a_seql rfl rfl ?_)
 (refine zaa (zaQ (r := .p _)) rfl rfl ?_)
 refine zag (zaB (⟨qI, _, (fun o => o), (.tmp _ _ _ _ rfl .nil), ?_, rfl, ?_, rfl⟩))
 ·exact rfl
 ·exact trivial
def PQ.cells (p : PQ) : List AV := [qe p.a, qe p.b, .p (.sl p.xs.length 1 (bs p.xs))]
end Go.Proofs.YtlfjpippeeikdaaGreatDoor
namespace Go.Proofs.YtlfjpippeeikdaaGreatDoor
open Tryz
open Go.RowKit Go.Sort
set_option maxRecDepth 100000
set_option maxHeartbeats 16000000
noncomputable def pqB (x y : PQ) : Bool := ((x.a == y.a) && (x.b == y.b)) && decide (strOfNums x.xs = strOfNums y.xs)
theorem pqB_T {x y : PQ} (h : x = y) : pqB x y = true := by
 subst h
 unfold pqB
 simp
theorem pqB_F {x y : PQ} (hx : isB x.xs) (hy : isB y.xs) (h : x ≠ y) : pqB x y = false := by
 cases hq : pqB x y with
 | false => rfl
 | true =>
  exfalso
  obtain ⟨a, b, xs⟩ := x
  obtain ⟨c, d, ys⟩ := y
  unfold pqB at hq
  simp at hq
  obtain ⟨⟨h1, h2⟩, h3⟩ := hq
  have h4 := nums_inj hx hy h3
  dsimp only at h4
  exact h (by rw [h1, h2, h4])
theorem pql_d (x y : PQ) : Fn prog 57 [.agg x.cells, .agg y.cells] (qf (pqB x y)) [] := by
 obtain ⟨a1, b1, x1⟩ := x
 obtain ⟨a2, b2, x2⟩ := y
 have hS := same_s x1.length x2.length x1 x2
 show Fn prog _ [.agg [qe a1, qe b1, .p (.sl x1.length 1 (bs x1))], .agg [qe a2, qe b2, .p (.sl x2.length 1 (bs x2))]] (qf (((a1 == a2) && (b1 == b2)) && decide (strOfNums x1 = strOfNums x2))) _
 generalize x1.length = n1 at *
 generalize x2.length = n2 at *
 refine fnI fun w0 A => ?_
 refine G [19, 2, 5] ?_
 refine mb2 _ rfl rfl (fun _ => zbl func89 rfl rfl (hS) qr rfl) (fun _ => trivial) ?_
 refine G [0, 2, 3, 9, 0] ?_
 exact yE
theorem pqsl_d (l m : List PQ) (hl : l.length ≤ 4611686018427387904) (hm : m.length ≤ 4611686018427387904) (okl : ∀ p ∈ l, isB p.xs) (okm : ∀ p ∈ m, isB p.xs) : Fn prog 56 [.p (.sl l.length 3 (l.flatMap PQ.pv)), .p (.sl m.length 3 (m.flatMap PQ.pv)), .fn 57 []] (qf (eqB l m)) [] := by
 by_cases hlen : l.length = m.length
 rotate_left
 ·rw [zgc (fun e => hlen (by rw [e]))]
  generalize l.flatMap PQ.pv = L
  generalize m.flatMap PQ.pv = M
  exact jaI
 obtain ⟨E, hE⟩ : ∃ E, eqB l m = E := ⟨_, rfl⟩
 rw [hE]
 refine fnI fun w0 A => ?_
 refine G [11, 3, 11] ?_
 refine zae (fun u st => ∃ i : Nat, u + i = l.length ∧ (∀ j, j < i → l[j]? = m[j]?) ∧ st = St.of [(1, .p (.sl m.length 3 (m.flatMap PQ.pv))), (2, .fn 57 []), (15, .p (.sl l.length 3 (l.flatMap PQ.pv))), (16, qd l.length), (17, qd i)] []) l.length ?_ ?_
 ·exact jav
 rintro u st ⟨i, hi, hf, rfl⟩
 refine G [5] ?_
 refine cX ?_ ?_ <;> intro h
 ·have hlt : i < l.length := by simp at h; omega
  clear h
  obtain ⟨x, hx⟩ : ∃ x, l[i]? = some x := ⟨l[i], List.getElem?_eq_getElem hlt⟩
  obtain ⟨y, hy⟩ : ∃ y, m[i]? = some y := ⟨m[i]'qk, List.getElem?_eq_getElem qk⟩
  have hch := zaj (f := PQ.pv) (k := 3) (fun _ => rfl) hx
  have hle := zak (f := PQ.pv) (k := 3) (fun _ => rfl) hlt
  have hch2 := zaj (f := PQ.pv) (k := 3) (fun _ => rfl) hy
  have hle2 := zak (f := PQ.pv) (k := 3) (fun _ => rfl) (show i < m.length by omega)
  have hbad := zg0 hx hy
  have hxy : x = y → l[i]? = m[i]? := fun e => by rw [hx, hy, e]
  have hxm := qaE hx
  have hym := qaE hy
  have hC := pql_d x y
  generalize l.flatMap PQ.pv = L at *
  generalize m.flatMap PQ.pv = M at *
  refine G [10] ?_
  refine jdZ (zac (Y := .agg x.cells) sz93 rfl rfl (qaB rfl)) ?_
  refine G [8] ?_
  refine jdZ (zac (Y := .agg y.cells) sz93 rfl rfl (qaB rfl)) ?_
  refine zag ?_
  by_cases he : x = y
  ·rw [pqB_T he] at hC
   refine G [3] ?_
   refine jdK ?_
   refine jdL ?_
   exact jbi
  ·rw [zgc (hbad he)] at hE
   subst hE
   rw [pqB_F (okl x hxm) (okm y hym) he] at hC
   refine G [3] ?_
   refine jdK ?_
   refine jdL ?_
   exact jbh
 have hge : i = l.length := by simp at h; omega
 clear h
 subst hge
 rw [ziA (zg1 hlen hf)] at hE
 subst hE
 refine jcV ?_
 exact yE
def slV (s : ST) : List Value := s.a.vals ++ s.b.vals ++ s.c.vals
def HS.vals (h : HS) : List Value := [.bool h.lv, .int .i64 h.mine, .string h.nc, .int .i64 h.b, .int .i64 h.s]
noncomputable def stB (x y : ST) : Bool := (((decide (x.key = y.key) && decide (x.ep = y.ep)) && eqL (slV x) (slV y)) && eqL x.h.vals y.h.vals) && eqB x.q y.q
theorem stB_iff {x y : ST} : stB x y = true ↔ x = y := by
 obtain ⟨k, e, a, b, c, h, q⟩ := x
 obtain ⟨k', e', a', b', c', h', q'⟩ := y
 unfold stB
 simp only [qaT, decide_eq_true_eq, zaP, zgb]
 constructor
 ·rintro ⟨⟨⟨⟨h1, h2⟩, h3⟩, h4⟩, h5⟩
  obtain ⟨h6, h7⟩ := List.append_inj h3 rfl
  obtain ⟨h8, h9⟩ := List.append_inj h6 rfl
  have ea : a = a' := KY.eqL_iff.1 (zaP.2 h8)
  have eb : b = b' := KY.eqL_iff.1 (zaP.2 h9)
  have ec : c = c' := KY.eqL_iff.1 (zaP.2 h7)
  obtain ⟨v1, v2, v3, v4, v5⟩ := h
  obtain ⟨u1, u2, u3, u4, u5⟩ := h'
  simp [HS.vals] at h4
  obtain ⟨g1, g2, g3, g4, g5⟩ := h4
  rw [h1, h2, ea, eb, ec, h5, g1, g2, g3, g4, g5]
 ·intro h
  cases h
  exact ⟨⟨⟨⟨rfl, rfl⟩, rfl⟩, rfl⟩, rfl⟩
theorem stB_T {x y : ST} (h : x = y) : stB x y = true := stB_iff.2 h
theorem stB_F {x y : ST} (h : x ≠ y) : stB x y = false := by
 cases hq : stB x y with
 | false => rfl
 | true => exact absurd (stB_iff.1 hq) h
theorem stl_d (x y : ST) (hx : x.B) (hy : y.B) : Fn prog 55 [.agg x.cells, .agg y.cells] (qf (stB x y)) [] := by
 have hQ := pqsl_d x.q y.q (by have := hx.1; omega) (by have := hy.1; omega) hx.2 hy.2
 clear hx hy
 obtain ⟨k1, e1, a1, b1, c1, h1, q1⟩ := x
 obtain ⟨k2, e2, a2, b2, c2, h2, q2⟩ := y
 dsimp only at hQ
 show Fn prog _ [.agg (stC k1 e1 a1 b1 c1 h1 q1.length (q1.flatMap PQ.pv)), .agg (stC k2 e2 a2 b2 c2 h2 q2.length (q2.flatMap PQ.pv))] (qf ((((decide (k1 = k2) && decide (e1 = e2)) && eqL (a1.vals ++ b1.vals ++ c1.vals) (a2.vals ++ b2.vals ++ c2.vals)) && eqL h1.vals h2.vals) && eqB q1 q2)) _
 generalize eqB q1 q2 = bn at *
 generalize q1.flatMap PQ.pv = L1 at *
 generalize q2.flatMap PQ.pv = L2 at *
 generalize q1.length = n1 at *
 generalize q2.length = n2 at *
 refine fnI fun w0 A => ?_
 refine G [19, 2, 2] ?_
 refine mb2 _ rfl rfl (fun hb => (zaf U55 rfl sz55 qo (show _ = zcB a1 b1 c1 from rfl))) (fun _ => ⟨rfl, trivial⟩) ?_
 refine mb2 _ rfl rfl (fun hb => (zar zer rfl)) (fun _ => trivial) ?_
 refine mb2 _ rfl rfl (fun hb => (zaf U55 rfl sz55 qo (show _ = zcB a2 b2 c2 from rfl))) (fun _ => ⟨rfl, trivial⟩) ?_
 refine mb2 _ rfl rfl (fun hb => (ze6 U55 rfl rfl qm qm qm)) (fun _ => trivial) ?_
 refine G [0, 2, 2] ?_
 refine mb2 _ rfl rfl (fun hb => (zaf U57 rfl sz57 qo (show _ = h1.cells from rfl))) (fun _ => ⟨rfl, trivial⟩) ?_
 refine mb2 _ rfl rfl (fun hb => (zar zhp rfl)) (fun _ => trivial) ?_
 refine mb2 _ rfl rfl (fun hb => (zaf U57 rfl sz57 qo (show _ = h2.cells from rfl))) (fun _ => ⟨rfl, trivial⟩) ?_
 refine mb2 _ rfl rfl (fun hb => (ze6 U57 rfl rfl qm qm qm)) (fun _ => trivial) ?_
 refine G [0, 2, 5] ?_
 refine mb2 _ rfl rfl (fun _ => zbl func56 rfl rfl (hQ) qr rfl) (fun _ => trivial) ?_
 refine G [0, 2, 3, 9, 0] ?_
 exact yE
theorem stsl_d (l m : List ST) (hl : l.length ≤ 4611686018427387904) (hm : m.length ≤ 4611686018427387904) (okl : ∀ s ∈ l, s.B) (okm : ∀ s ∈ m, s.B) : Fn prog 54 [.p (.sl l.length 41 (l.flatMap ST.pv)), .p (.sl m.length 41 (m.flatMap ST.pv)), .fn 55 []] (qf (eqB l m)) [] := by
 by_cases hlen : l.length = m.length
 rotate_left
 ·rw [zgc (fun e => hlen (by rw [e]))]
  generalize l.flatMap ST.pv = L
  generalize m.flatMap ST.pv = M
  exact jaI
 obtain ⟨E, hE⟩ : ∃ E, eqB l m = E := ⟨_, rfl⟩
 rw [hE]
 refine fnI fun w0 A => ?_
 refine G [11, 3, 11] ?_
 refine zae (fun u st => ∃ i : Nat, u + i = l.length ∧ (∀ j, j < i → l[j]? = m[j]?) ∧ st = St.of [(1, .p (.sl m.length 41 (m.flatMap ST.pv))), (2, .fn 55 []), (15, .p (.sl l.length 41 (l.flatMap ST.pv))), (16, qd l.length), (17, qd i)] []) l.length ?_ ?_
 ·exact jav
 rintro u st ⟨i, hi, hf, rfl⟩
 refine G [5] ?_
 refine cX ?_ ?_ <;> intro h
 ·have hlt : i < l.length := by simp at h; omega
  clear h
  obtain ⟨x, hx⟩ : ∃ x, l[i]? = some x := ⟨l[i], List.getElem?_eq_getElem hlt⟩
  obtain ⟨y, hy⟩ : ∃ y, m[i]? = some y := ⟨m[i]'qk, List.getElem?_eq_getElem qk⟩
  have hch := zaj (f := ST.pv) (k := 41) (fun _ => rfl) hx
  have hle := zak (f := ST.pv) (k := 41) (fun _ => rfl) hlt
  have hch2 := zaj (f := ST.pv) (k := 41) (fun _ => rfl) hy
  have hle2 := zak (f := ST.pv) (k := 41) (fun _ => rfl) (show i < m.length by omega)
  have hbad := zg0 hx hy
  have hxy : x = y → l[i]? = m[i]? := fun e => by rw [hx, hy, e]
  have hxm := qaE hx
  have hym := qaE hy
  have hC := stl_d x y (okl x hxm) (okm y hym)
  generalize l.flatMap ST.pv = L at *
  generalize m.flatMap ST.pv = M at *
  refine G [10] ?_
  refine jdZ (zac (Y := .agg x.cells) sz60 rfl rfl (qaB rfl)) ?_
  refine G [8] ?_
  refine jdZ (zac (Y := .agg y.cells) sz60 rfl rfl (qaB rfl)) ?_
  refine zag ?_
  by_cases he : x = y
  ·rw [stB_T he] at hC
   refine G [3] ?_
   refine jdg ?_
   refine jdM ?_
   exact jbi
  ·rw [zgc (hbad he)] at hE
   subst hE
   rw [stB_F he] at hC
   refine G [3] ?_
   refine jdg ?_
   refine jdM ?_
   exact jbh
 have hge : i = l.length := by simp at h; omega
 clear h
 subst hge
 rw [ziA (zg1 hlen hf)] at hE
 subst hE
 refine jcV ?_
 exact yE
theorem sameStates_d (l m : List ST) (hl : l.length ≤ 1048576) (hm : m.length ≤ 1048576) (okl : ∀ s ∈ l, s.B) (okm : ∀ s ∈ m, s.B) : Fn prog 26 [.p (.sl l.length 41 (l.flatMap ST.pv)), .p (.sl m.length 41 (m.flatMap ST.pv))] (qf (eqB l m)) [] := by
 have hC := stsl_d l m qk qk okl okm
 clear hl hm okl okm
 generalize eqB l m = bn at *
 generalize l.flatMap ST.pv = L at *
 generalize l.length = N at *
 generalize m.flatMap ST.pv = L' at *
 generalize m.length = N' at *
 exact jby
section
variable {P : Program} {d : Option Tmp} {ty : TypeId} {pos : String} {af : Array Edge} {g : Option (Nat × Bool)}
theorem zgg {xt yt : TypeId} {x y : Operand} {s t : ByteArray} {c : Bool} (h : leK s t = c) : AOp P ⟨d, .binOp .leq xt x y yt, ty, pos, af, g⟩ [qc s, qc t] [] [] (qf c) := by
 subst h
 exact a_sleq
end
theorem awp_joinS {P : Program} {w0 : World} {A : Ctx1} {nt : Nat} {c c2 d : Code} {Q : Exit → St → Prop} {st : St} (st1 : St) (h : awp ⟨P, w0, ctx0 A, nt⟩ c (Thn (awp ⟨P, w0, ctx0 A, nt⟩ c2 (Thn (fun st' => Re st' st1) Q)) (Thn (fun st' => Re st' st1) Q)) st) (k : awp ⟨P, w0, ctx0 A, nt⟩ d Q st1) :
 awp ⟨P, w0, ctx0 A, nt⟩ c (Thn (awp ⟨P, w0, ctx0 A, nt⟩ c2 (Thn (awp ⟨P, w0, ctx0 A, nt⟩ d Q) Q)) (Thn (awp ⟨P, w0, ctx0 A, nt⟩ d Q) Q)) st :=
 ziG h fun e st' he => by
  cases e with
  | normal => exact zde st1 he k
  | _ => exact he
def idxN (n : NtP) : List NtP → Int
 | [] => -1
 | x :: xs => if n = x then 0 else if idxN n xs < 0 then -1 else idxN n xs + 1
theorem idxN_at {n : NtP} : ∀ {xs : List NtP} {k : Nat}, (hk : k < xs.length) → n = xs[k] → (∀ j, (hj : j < k) → n ≠ xs[j]) → idxN n xs = k
 | x :: xs, 0, _, h, _ => by
  have : n = x := by simpa using h
  simp [idxN, this]
 | x :: xs, k + 1, hk, h, hb => by
  have h0 : n ≠ x := by simpa using hb 0 qk
  have ih := idxN_at (xs := xs) (k := k) (by simpa using hk) qG (fun j hj => by simpa using hb (j + 1) qk)
  simp only [idxN, if_neg h0, ih]
  rw [if_neg (by omega)]
  omega
theorem idxN_none {n : NtP} : ∀ {xs : List NtP}, (∀ j, (hj : j < xs.length) → n ≠ xs[j]) → idxN n xs = -1
 | [], _ => rfl
 | x :: xs, hb => by
  have h0 : n ≠ x := hb 0 qz
  have ih := idxN_none (n := n) (xs := xs) (fun j hj => hb (j + 1) (by simpa using hj))
  simp [idxN, h0, ih]
theorem idxN_ge (n : NtP) : ∀ xs : List NtP, (0 ≤ idxN n xs ↔ n ∈ xs)
 | [] => by simp [idxN]
 | x :: xs => by
  have ih := idxN_ge n xs
  unfold idxN
  by_cases h : n = x
  ·rw [if_pos h]; simp [h]
  ·rw [if_neg h]
   by_cases h2 : idxN n xs < 0
   ·rw [if_pos h2]
    simp only [qaI, h, false_or]
    rw [← ih]; omega
   ·rw [if_neg h2]
    simp only [qaI, h, false_or]
    rw [← ih]; omega
theorem zdc (a b c d : Int) : eqL [.int .u32 a, .int .i64 b] [.int .u32 c, .int .i64 d] = decide ((a, b) = (c, d)) := by
 rw [qbm, zaP, decide_eq_true_eq]
 simp
theorem indexN_s (xs : List NtP) (a b : Int) (N : Nat) (hN : xs.length = N) (hm : N ≤ 100000) : Fn prog 103 [.p (.sl N 2 (xs.flatMap ntC)), .agg [qe a, qd b]] (qd (idxN (a, b) xs)) [] := by
 refine fnI fun w0 A => ?_
 refine G [13] ?_
 refine zae (fun m st => ∃ k : Nat, m + k = N ∧ (∀ j, (hj : j < k) → (hj2 : j < xs.length) → (a, b) ≠ xs[j]) ∧ st = St.of [(0, .p (.sl N 2 (xs.flatMap ntC))), (3, .ref 3 0), (7, qd N), (8, qd k)] [(3, .box 82 [qe a, qd b])]) N ?_ ?_
 ·exact jbB
 rintro m st ⟨k, hk, hb, rfl⟩
 refine G [5] ?_
 refine cX ?_ ?_ <;> intro h
 ·have hlt : k < N := by simp at h; omega
  clear h
  have hq : xs[k]? = some (xs[k]'qk) := List.getElem?_eq_getElem qk
  have hch := zaj (f := ntC) (k := 2) (fun _ => rfl) hq
  have hle := zak (f := ntC) (k := 2) (fun _ => rfl) (show k < xs.length by omega)
  have hat := @idxN_at (a, b) xs k qk
  have hstep : (a, b) ≠ (xs[k]'qk) → ∀ j, (hj : j < k + 1) → (hj2 : j < xs.length) → (a, b) ≠ xs[j] := fun hne j hj hj2 => by
   by_cases e : j = k
   ·subst e; exact hne
   ·exact hb j qk hj2
  have hb' : ∀ j, (hj : j < k) → (a, b) ≠ (xs[j]'qk) := fun j hj => hb j hj qk
  generalize hx : (xs[k]'qk) = x at *
  obtain ⟨c, e⟩ := x
  generalize xs.flatMap ntC = L at *
  refine G [8] ?_
  by_cases hc : (a, b) = (c, e)
  ·rw [hat hc hb']
   refine G [7] ?_
   refine zaa (zb3 U82 rfl rfl qm qm qm (c := true) (by rw [zdc]; exact decide_eq_true hc)) rfl rfl ?_
   refine jdh ?_
   exact yE
  ·refine G [7] ?_
   refine zaa (zb3 U82 rfl rfl qm qm qm (c := false) (by rw [zdc]; exact decide_eq_false hc)) rfl rfl ?_
   refine jcS ?_
   refine ⟨m - 1, qk, _, zad id _ _ ?_ ?_ rfl, k + 1, qk, hstep hc, rfl⟩
   ·exact ja5
   ·exact ⟨⟨rfl, rfl⟩, trivial⟩
 have hge : k = N := by simp at h; omega
 clear h
 rw [idxN_none fun j hj => hb j (by omega) hj]
 refine jcV ?_
 exact yE
theorem containsN_s (xs : List NtP) (a b : Int) (N : Nat) (hN : xs.length = N) (hm : N ≤ 100000) : Fn prog 68 [.p (.sl N 2 (xs.flatMap ntC)), .agg [qe a, qd b]] (qf (decide ((a, b) ∈ xs))) [] := by
 have hI := indexN_s xs a b N hN hm
 have hge := idxN_ge (a, b) xs
 have hB : decide ((a, b) ∈ xs) = decide (0 ≤ idxN (a, b) xs) := by simp only [hge]
 rw [hB]
 generalize idxN (a, b) xs = k at *
 refine fnI fun w0 A => ?_
 refine G [9] ?_
 refine cV hI ?_
 refine G [4, 9, 0] ?_
 exact yE
theorem nt_push (X : List NtP) (a b : Int) : X.flatMap ntC ++ [qi a, qh b] = (X ++ [(a, b)]).flatMap ntC := by
 rw [qaX]
 simp [ntC]
theorem zbT (c : CF) (ok : c.OK) : Fn prog 33 [.agg c.cells] (qd (cfE c)) [] := by
 obtain ⟨key, port, l⟩ := c
 obtain ⟨hn, ok⟩ := ok
 dsimp only at hn ok
 obtain ⟨E, hE⟩ : ∃ E, cfE ⟨key, port, l⟩ = E := ⟨_, rfl⟩
 rw [hE]
 unfold cfE at hE
 dsimp only at hE
 have hK := zbW key
 show Fn prog _ [.agg (cfC key port l.length (l.flatMap PE.pv))] _ _
 generalize keyE key = k1 at *
 refine fnI fun w0 A => ?_
 refine G [5] ?_
 by_cases hk : key ≠ ⟨#[]⟩ ∧ k1 ≠ 0
 ·rw [if_pos hk] at hE
  subst hE
  refine jcS ?_
  refine cX ?_ ?_ <;> intro h
  ·refine G [4] ?_
   refine cV hK ?_
   refine jcS ?_
   refine cX ?_ ?_ <;> intro h
   ·refine jcV ?_
    exact yE
   ·exact absurd qG hk.2
  ·exact absurd qG hk.1
 rw [if_neg hk] at hE
 refine jcS ?_
 refine zde (St.of [(1, .ref 1 0)] [(1, .box 24 (cfC key port l.length (l.flatMap PE.pv)))]) ?_ ?_
 ·skip
  refine cX ?_ ?_ <;> intro h
  ·refine G [4] ?_
   refine cV hK ?_
   refine jcS ?_
   refine cX ?_ ?_ <;> intro h
   ·exact absurd ⟨by simp_all, by simpa using h⟩ hk
   ·refine zay (zaE ?_)
    exact jau
  ·refine zay (zaE ?_)
   exact jau
 clear hk hK
 refine G [10, 2, 1, 9, 0] ?_
 refine cX ?_ ?_ <;> intro h
 ·have h5 : port < 0 ∨ 65535 < port := by simpa using h
  exact jb2
 have h5 : ¬ (port < 0 ∨ 65535 < port) := by simp at h; omega
 clear h
 rw [if_neg h5] at hE
 refine G [9, 9, 0] ?_
 refine cX ?_ ?_ <;> intro h
 ·exact jbm
 have h6 : ¬ 6 < l.length := by simp at h; omega
 clear h
 rw [if_neg h6] at hE
 refine jcQ ?_
 refine zaH (zbY 4 100 82 2 rfl rfl) ?_
 refine G [9] ?_
 refine zae (fun m st => ∃ i : Nat, m + i = l.length ∧ (∀ j, j < i → zdJ key l j = 0) ∧ st = St.of [(1, .ref 1 0), (4, .row 100), (32, .p (.sl l.length 5 (l.flatMap PE.pv))), (33, qd l.length), (34, qd i)] [(1, .box 24 (cfC key port l.length (l.flatMap PE.pv))), (100, .row 82 2 (zce l i).length ((zce l i).flatMap ntC))]) l.length ?_ ?_
 ·exact jaR
 rintro m st ⟨i, hi, hf, rfl⟩
 refine G [5] ?_
 refine cX ?_ ?_ <;> intro h
 ·have hlt : i < l.length := by simp at h; omega
  clear h
  obtain ⟨p, hp⟩ : ∃ p, l[i]? = some p := ⟨l[i], List.getElem?_eq_getElem hlt⟩
  have hch := zaj (f := PE.pv) (k := 5) (fun _ => rfl) hp
  have hle := zak (f := PE.pv) (k := 5) (fun _ => rfl) hlt
  obtain ⟨hok, hpl⟩ := ok p (qaE hp)
  have hC := right_s p hok
  have hhit := @zb8 (zdJ key l) i l.length hf hlt
  have hst : zdJ key l i = if peE p ≠ 0 then peE p else if (0 < i ∧ leK p.key (peG l (i - 1)).key = true) ∨ p.key = key then 6 else if dupN (zce l i) p.nets = true then 6 else 0 := by unfold zdJ; rw [zcd hp]
  have hgood := @zcJ p
  have hnx := zf1 hp
  have hbl : (zce l i).length ≤ 8 * i := netsB_len (fun j hj => by
   have h0 := hf j hj
   unfold zdJ at h0
   split at h0
   ·exact absurd h0 qP
   ·rename_i h1
    exact (zcJ (qaH.1 h1)).1) qk
  have hprev : ∀ j, i = j + 1 → (((l.flatMap PE.pv).drop (j * 5)).take 5 = (peG l j).pv) ∧ j * 5 + 5 ≤ (l.flatMap PE.pv).length := by
   intro j hj
   obtain ⟨r, hr⟩ : ∃ r, l[j]? = some r := ⟨l[j], List.getElem?_eq_getElem qk⟩
   rw [zcd hr]
   exact ⟨zaj (f := PE.pv) (k := 5) (fun _ => rfl) hr, zak (f := PE.pv) (k := 5) (fun _ => rfl) qk⟩
  generalize hL : l.flatMap PE.pv = L at *
  generalize peE p = e at *
  refine G [10] ?_
  refine jcZ ?_
  refine G [4] ?_
  refine jdn ?_
  refine cK hC ?_
  refine jcS ?_
  refine cX ?_ ?_ <;> intro h
  ·exact jcr
  have h7 : e = 0 := by simpa using h
  clear h
  rw [if_neg (by simp [h7])] at hst
  obtain ⟨hn8, _⟩ := hgood h7
  --@rest
  have hcase : i = 0 ∨ ∃ j, i = j + 1 := by
   exact jbO
  by_cases hd : (0 < i ∧ leK p.key (peG l (i - 1)).key = true) ∨ p.key = key
  ·rw [if_pos hd] at hst
   rw [hhit (by rw [hst]; decide), hst] at hE
   subst hE
   rcases hcase with hi0 | ⟨j0, hij⟩
   ·have hkk : p.key = key := hd.resolve_left fun q => by omega
    refine G [5, 3, 17] ?_
    refine jdY (zaO (c := true) (decide_eq_true hkk)) ?_
    refine jdh ?_
    exact yE
   ·obtain ⟨hpv, hple⟩ := hprev j0 hij
    have hpk : (L.drop (j0 * 5))[0]? = some (qg (peG l j0).key) := by
     have := congrArg (fun x => x[0]?) hpv
     exact jcI
    rw [show i - 1 = j0 by omega] at hd
    by_cases hlk : leK p.key (peG l j0).key = true
    ·refine G [5, 4, 7] ?_
     refine zaa (za1 U22 sz48 qk qk (show _ = L.drop (j0 * 5) by congr 2; omega)) rfl rfl ?_
     refine jdY (zah zgq rfl) ?_
     refine jdY (zaN U9 rfl hpk) ?_
     refine jdY (zgg (c := true) (hlk)) ?_
     refine G [15, 9, 0] ?_
     exact yE
    ·have hkk : p.key = key := hd.resolve_left fun q => hlk q.2
     refine G [5, 4, 7] ?_
     refine zaa (za1 U22 sz48 qk qk (show _ = L.drop (j0 * 5) by congr 2; omega)) rfl rfl ?_
     refine jdY (zah zgq rfl) ?_
     refine jdY (zaN U9 rfl hpk) ?_
     refine zaa (zgg (c := false) qax) rfl rfl ?_
     refine G [6] ?_
     refine jdY (zaO (c := true) (decide_eq_true hkk)) ?_
     refine jdh ?_
     exact yE
  rw [if_neg hd] at hst
  have hkk : ¬ p.key = key := fun e => hd (.inr e)
  refine G [3] ?_
  refine awp_joinS (St.of [(1, .ref 1 0), (4, .row 100), (6, .ref 6 0), (32, .p (.sl l.length 5 L)), (33, qd l.length), (34, qd i)] [(1, .box 24 (cfC key port l.length L)), (6, .box 48 p.cells), (100, .row 82 2 (zce l i).length ((zce l i).flatMap ntC))]) ?_ ?_
  ·rcases hcase with hi0 | ⟨j0, hij⟩
   ·skip
    refine G [2, 3, 17] ?_
    refine jdY (zaO (c := false) (decide_eq_false hkk)) ?_
    refine G [4, 9, 0] ?_
    exact jau
   ·obtain ⟨hpv, hple⟩ := hprev j0 hij
    have hpk : (L.drop (j0 * 5))[0]? = some (qg (peG l j0).key) := by
     have := congrArg (fun x => x[0]?) hpv
     exact jcI
    rw [show i - 1 = j0 by omega] at hd
    have hlk : ¬ leK p.key (peG l j0).key = true := fun e => hd (.inl ⟨qk, e⟩)
    skip
    refine G [2, 4, 7] ?_
    refine zaa (za1 U22 sz48 qk qk (show _ = L.drop (j0 * 5) by congr 2; omega)) rfl rfl ?_
    refine jdY (zah zgq rfl) ?_
    refine jdY (zaN U9 rfl hpk) ?_
    refine zaa (zgg (c := false) qax) rfl rfl ?_
    refine G [6] ?_
    refine jdY (zaO (c := false) (decide_eq_false hkk)) ?_
    refine G [4, 9, 0] ?_
    exact zad id _ _ qp qp rfl
  clear hd hprev hcase
  obtain ⟨DD, hDD⟩ : ∃ b, dupN (zce l i) p.nets = b := ⟨_, rfl⟩
  rw [hDD] at hst
  refine G [8] ?_
  refine zae (fun m' st => ∃ j : Nat, m' + j = p.nets.length ∧ ∃ X : List NtP, X.length = (zce l i).length + j ∧ DD = dupN X (p.nets.drop j) ∧ X = zce l i ++ p.nets.take j ∧ st = St.of [(1, .ref 1 0), (4, .row 100), (32, .p (.sl l.length 5 L)), (33, qd l.length), (34, qd i), (66, .p (.sl p.nets.length 2 (p.nets.flatMap ntC))), (67, qd p.nets.length), (68, qd j)] [(1, .box 24 (cfC key port l.length L)), (100, .row 82 2 ((zce l i).length + j) (X.flatMap ntC))]) p.nets.length ?_ ?_
  ·refine ⟨_, zad id _ _ ?_ ?_ rfl, 0, qk, zce l i, qk, by rw [qbD]; exact hDD.symm, qz, rfl⟩
   ·exact ja5
   ·exact ⟨⟨rfl, rfl⟩, ⟨rfl, rfl⟩, trivial⟩
  rintro m' st ⟨j, hj, X, hX, hdp, hXe, rfl⟩
  refine G [5] ?_
  refine cX ?_ ?_ <;> intro h
  ·have hlj : j < p.nets.length := by simp at h; omega
   clear h
   obtain ⟨q, hq⟩ : ∃ q, p.nets[j]? = some q := ⟨p.nets[j], List.getElem?_eq_getElem hlj⟩
   have hch2 := zaj (f := ntC) (k := 2) (fun _ => rfl) hq
   have hle2 := zak (f := ntC) (k := 2) (fun _ => rfl) hlj
   have hdr : p.nets.drop j = q :: p.nets.drop (j + 1) := by
    obtain ⟨q1, q2⟩ := qaG.1 hq
    rw [qbh q1, q2]
   have htk : p.nets.take (j + 1) = p.nets.take j ++ [q] := by
    obtain ⟨q1, q2⟩ := qaG.1 hq
    exact jcy
   rw [hdr, dupN] at hdp
   obtain ⟨qa, qb⟩ := q
   have hCt := containsN_s X qa qb ((zce l i).length + j) hX qk
   have hps := nt_push X qa qb
   have hxl : (X.flatMap ntC).length = ((zce l i).length + j) * 2 := by rw [zas (k := 2) (fun _ => rfl), hX]
   generalize hNL : p.nets.flatMap ntC = NL at *
   generalize hXF : X.flatMap ntC = XF at *
   refine G [8] ?_
   refine jdZ (zac (Y := .agg [qe qa, qd qb]) sz82 rfl rfl (qaB rfl)) ?_
   refine zag ?_
   by_cases hm : (qa, qb) ∈ X
   ·rw [show (decide ((qa, qb) ∈ X) || dupN (X ++ [(qa, qb)]) (p.nets.drop (j + 1))) = true by simp [hm]] at hdp
    rw [if_pos hdp] at hst
    rw [hhit (by rw [hst]; decide), hst] at hE
    subst hE
    rw [decide_eq_true hm] at hCt
    refine G [5] ?_
    refine cV hCt ?_
    refine G [6] ?_
    exact jaS
   ·rw [show (decide ((qa, qb) ∈ X) || dupN (X ++ [(qa, qb)]) (p.nets.drop (j + 1))) = dupN (X ++ [(qa, qb)]) (p.nets.drop (j + 1)) by simp [hm]] at hdp
    rw [decide_eq_false hm] at hCt
    refine G [5] ?_
    refine cV hCt ?_
    refine G [6] ?_
    refine jdZ (zai 77 U46 sz82 zc82 (qaA rfl) (qaA rfl) rfl rfl rfl rfl (qaA rfl)) ?_
    refine zab (zaq 78 U46 eo82 (zaU) qy qk rfl rfl) rfl rfl ⟨rfl, rfl, rfl, trivial⟩ ?_
    refine jcV ?_
    refine ⟨m' - 1, qk, _, zad (fun o => bif Nat.beq o 100 then 78 else o) _ _ ?_ ?_ rfl, j + 1, qk, X ++ [(qa, qb)], by rw [qaC, hX]; rfl, hdp, by rw [htk, ← qaY, hXe], rfl⟩
    ·exact ja5
    ·exact ⟨⟨rfl, rfl⟩, ⟨by rw [← hps]; rfl, rfl⟩, trivial⟩
  have hge : j = p.nets.length := by simp at h; omega
  clear h
  subst hge
  rw [qa5] at hXe
  have hz : dupN X (p.nets.drop p.nets.length) = false := by rw [List.drop_length]; rfl
  rw [hz] at hdp
  rw [if_neg (by rw [hdp]; decide)] at hst
  refine jcQ ?_
  refine ⟨m - 1, qk, _, zad id _ _ ?_ ?_ rfl, i + 1, qk, fun q hq => ?_, rfl⟩
  ·exact ja5
  ·refine ⟨⟨rfl, rfl⟩, ⟨?_, rfl⟩, trivial⟩
   rw [hnx, qaC, ← hXe]
   rfl
  ·exact jbD
 have hge : i = l.length := by simp at h; omega
 clear h
 subst hge
 rw [zcD hf] at hE
 subst hE
 refine jcV ?_
 exact yE
end Go.Proofs.YtlfjpippeeikdaaGreatDoor
