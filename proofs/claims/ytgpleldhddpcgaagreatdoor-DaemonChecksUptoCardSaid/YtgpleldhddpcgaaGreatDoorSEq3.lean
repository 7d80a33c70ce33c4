/- Are two rows of states the same? law.sameStates, daemon.Same's closures, over data. -/
import Derived.Test.YtgpleldhddpcgaaGreatDoorSCf2
import Derived.Test.YtgpleldhddpcgaaGreatDoorSTc4
namespace Go.Proofs.YtgpleldhddpcgaaGreatDoor
open Go.RowKit Go.Sort
set_option linter.unusedVariables false
set_option linter.unusedSimpArgs false
set_option maxRecDepth 100000
noncomputable def pqB (x y : PQ) : Bool := ((x.a == y.a) && (x.b == y.b)) && decide (strOfNums x.xs = strOfNums y.xs)
theorem pqB_T {x y : PQ} (h : x = y) : pqB x y = true := by
 subst h
 unfold pqB
 simp
theorem pqB_F {x y : PQ} (hx : isB x.xs) (hy : isB y.xs) (h : x ≠ y) : pqB x y = false := by
 cases hq : pqB x y with
 | false => rfl
 | true =>
  exfalso
  obtain ⟨a, b, xs⟩ := x
  obtain ⟨c, d, ys⟩ := y
  unfold pqB at hq
  simp at hq
  obtain ⟨⟨h1, h2⟩, h3⟩ := hq
  have h4 := nums_inj hx hy h3
  dsimp only at h4
  exact h (by rw [h1, h2, h4])
theorem pql_d (x y : PQ) : Fn Tryz.prog 90 [.agg x.cells, .agg y.cells] (.p (.v (.bool (pqB x y)))) [] := by
 obtain ⟨a1, b1, x1⟩ := x
 obtain ⟨a2, b2, x2⟩ := y
 have hS := same_s x1.length x2.length x1 x2
 show Fn Tryz.prog _ [.agg [.p (.v (.int .u32 a1)), .p (.v (.int .u32 b1)), .p (.sl x1.length 1 (bs x1))], .agg [.p (.v (.int .u32 a2)), .p (.v (.int .u32 b2)), .p (.sl x2.length 1 (bs x2))]] (.p (.v (.bool (((a1 == a2) && (b1 == b2)) && decide (strOfNums x1 = strOfNums x2))))) _
 generalize x1.length = n1 at *
 generalize x2.length = n2 at *
 refine zap Tryz.func90 rfl (Nat.le_of_ble_eq_true rfl) fun w0 A => ?_
 refine zaa ?_
 refine tx ?_
 refine zal (za2 (X := .agg _) 2 rfl) rfl rfl ⟨rfl, trivial⟩ ?_
 refine zal (za2 (X := .agg _) 3 rfl) rfl rfl ⟨rfl, trivial⟩ ?_
 refine yA ?_
 refine zab ?_
 refine zaa ?_
 refine tx ?_
 refine yF fi91_0 ?_
 refine yL Tryz.underlying50 ?_
 refine yF fi91_0 ?_
 refine yL Tryz.underlying50 ?_
 (first | refine zac zaF rfl rfl ?_ | refine zac zb6 rfl rfl ?_)
 refine yM ?_
 (first | refine mb2 _ rfl rfl (fun hb => (zag zgQ rfl)) (fun _ => trivial) ?_ | refine yF zgQ ?_)
 (first | refine mb2 _ rfl rfl (fun hb => (zat Tryz.underlying50 rfl (by first | rfl | assumption))) (fun _ => ⟨rfl, trivial⟩) ?_ | refine yL Tryz.underlying50 ?_)
 (first | refine mb2 _ rfl rfl (fun hb => (zag zgQ rfl)) (fun _ => trivial) ?_ | refine yF zgQ ?_)
 (first | refine mb2 _ rfl rfl (fun hb => (zat Tryz.underlying50 rfl (by first | rfl | assumption))) (fun _ => ⟨rfl, trivial⟩) ?_ | refine yL Tryz.underlying50 ?_)
 (first | refine mb2 _ rfl rfl (fun hb => zaF) (fun _ => trivial) ?_ | refine zac zb6 rfl rfl ?_)
 (first | refine zac (zbl (by first | exact id | (simp; done) | grind)) rfl rfl ?_ | refine zac zak rfl rfl ?_)
 refine yM ?_
 (first | refine mb2 _ rfl rfl (fun hb => (zag zd2 rfl)) (fun _ => trivial) ?_ | refine yF zd2 ?_)
 (first | refine mb2 _ rfl rfl (fun hb => (zat Tryz.underlying89 rfl (by first | rfl | assumption))) (fun _ => ⟨rfl, trivial⟩) ?_ | refine yL Tryz.underlying89 ?_)
 (first | refine mb2 _ rfl rfl (fun hb => (zag zd2 rfl)) (fun _ => trivial) ?_ | refine yF zd2 ?_)
 (first | refine mb2 _ rfl rfl (fun hb => (zat Tryz.underlying89 rfl (by first | rfl | assumption))) (fun _ => ⟨rfl, trivial⟩) ?_ | refine yL Tryz.underlying89 ?_)
 refine mb2 _ rfl rfl (fun _ => zbd Tryz.func130 rfl rfl (hS) (by first | rfl | simp [AV.okInL, AV.okIn, zaZ]) rfl) (fun _ => trivial) ?_
 (first | refine zac (zbl (by first | exact id | (simp; done) | grind)) rfl rfl ?_ | refine zac zak rfl rfl ?_)
 refine yA ?_
 refine zab ?_
 refine zaf ?_
 refine yT ?_ ?_
 ·exact rfl
 ·exact trivial
theorem pqsl_d (l m : List PQ) (hl : l.length ≤ 4611686018427387904) (hm : m.length ≤ 4611686018427387904) (okl : ∀ p ∈ l, isB p.xs) (okm : ∀ p ∈ m, isB p.xs) : Fn Tryz.prog 47 [.p (.sl l.length 3 (l.flatMap PQ.pv)), .p (.sl m.length 3 (m.flatMap PQ.pv)), .fn 90 []] (.p (.v (.bool (eqB l m)))) [] := by
 by_cases hlen : l.length = m.length
 rotate_left
 ·rw [zdB (fun e => hlen (by rw [e]))]
  generalize l.flatMap PQ.pv = L
  generalize m.flatMap PQ.pv = M
  generalize l.length = n at *
  generalize m.length = k at *
  refine zap Tryz.func47 rfl (Nat.le_of_ble_eq_true rfl) fun w0 A => ?_
  refine zaa ?_
  refine tx ?_
  refine yA ?_
  refine zab ?_
  refine zaa (zaa ?_)
  refine tx ?_
  refine yM ?_
  refine yP (zaC Tryz.underlying79) ?_
  refine yM ?_
  refine yP (zaC Tryz.underlying79) ?_
  refine zac (zaQ (c := true) (by simp; omega)) rfl rfl ?_
  refine zab ?_
  refine zae ?_
  refine zaD rfl ?_
  refine zaa ?_
  refine tx ?_
  refine yA ?_
  refine zab ?_
  refine zaf (zam ?_)
  refine yT ?_ ?_
  ·exact rfl
  ·exact trivial
 obtain ⟨E, hE⟩ : ∃ E, eqB l m = E := ⟨_, rfl⟩
 rw [hE]
 refine zap Tryz.func47 rfl (Nat.le_of_ble_eq_true rfl) fun w0 A => ?_
 refine zaa ?_
 refine tx ?_
 refine yA ?_
 refine zab ?_
 refine zaa (zaa ?_)
 refine tx ?_
 refine yM ?_
 refine yP (zaC Tryz.underlying79) ?_
 refine yM ?_
 refine yP (zaC Tryz.underlying79) ?_
 refine zac (zaQ (c := false) (by simp; omega)) rfl rfl ?_
 refine zab ?_
 refine zae ?_
 refine zan rfl ?_
 refine zad (zaa (zaa ?_))
 refine tx ?_
 refine yM ?_
 refine yP (zaC Tryz.underlying79) ?_
 refine yM ?_
 refine zab ?_
 refine zaj ?_
 refine zaE (fun u st => ∃ i : Nat, u + i = l.length ∧ (∀ j, j < i → l[j]? = m[j]?) ∧ st = St.of [(1, .p (.sl m.length 3 (m.flatMap PQ.pv))), (2, .fn 90 []), (15, .p (.sl l.length 3 (l.flatMap PQ.pv))), (16, .p (.v (.int .i64 l.length))), (17, .p (.v (.int .i64 i)))] []) l.length ?_ ?_
 ·refine ⟨_, zaJ id _ _ ?_ ?_ rfl, 0, by omega, by omega, rfl⟩
  ·(repeat (first | exact trivial | (refine ⟨⟨(by first | rfl | (simp; done) | (simp; omega)), rfl⟩, ?_⟩)))
  ·exact trivial
 rintro u st ⟨i, hi, hf, rfl⟩
 refine zaa ?_
 refine tx ?_
 refine yP zaX ?_
 refine zab ?_
 refine zaa ?_
 refine zah _ rfl (fun h => ?_) (fun h => ?_)
 ·have hlt : i < l.length := by simp at h; omega
  clear h
  obtain ⟨x, hx⟩ : ∃ x, l[i]? = some x := ⟨l[i], List.getElem?_eq_getElem hlt⟩
  obtain ⟨y, hy⟩ : ∃ y, m[i]? = some y := ⟨m[i]'(by omega), List.getElem?_eq_getElem (by omega)⟩
  have hch := zaN (f := PQ.pv) (k := 3) (fun _ => rfl) hx
  have hle := zaP (f := PQ.pv) (k := 3) (fun _ => rfl) hlt
  have hch2 := zaN (f := PQ.pv) (k := 3) (fun _ => rfl) hy
  have hle2 := zaP (f := PQ.pv) (k := 3) (fun _ => rfl) (show i < m.length by omega)
  have hbad := zeo hx hy
  have hxy : x = y → l[i]? = m[i]? := fun e => by rw [hx, hy, e]
  have hxm := List.mem_of_getElem? hx
  have hym := List.mem_of_getElem? hy
  have hC := pql_d x y
  generalize l.flatMap PQ.pv = L at *
  generalize m.flatMap PQ.pv = M at *
  refine zad (zaa (zaj (zaa ?_)))
  refine tx ?_
  refine yM ?_
  refine zac (zao Tryz.underlying79 sz91 (by omega) (by omega) rfl) rfl rfl ?_
  refine zac (zaz Tryz.underlying91 rfl sz91 (by first | omega | (simp; done) | (simp; omega)) (hch)) rfl rfl ?_
  refine zal (zaU 8 zr91 rfl) rfl rfl ⟨rfl, trivial⟩ ?_
  refine yA ?_
  refine zal (zaA (Y := .agg x.cells) sz91 rfl rfl (Nat.eq_of_beq_eq_true rfl)) rfl rfl ⟨rfl, trivial⟩ ?_
  refine zab ?_
  refine zaa ?_
  refine tx ?_
  refine yM ?_
  refine yM ?_
  refine zac (zao Tryz.underlying79 sz91 (by omega) (by omega) rfl) rfl rfl ?_
  refine zac (zaz Tryz.underlying91 rfl sz91 (by first | omega | (simp; done) | (simp; omega)) (hch2)) rfl rfl ?_
  refine zal (zaU 9 zr91 rfl) rfl rfl ⟨rfl, trivial⟩ ?_
  refine zal (zaA (Y := .agg y.cells) sz91 rfl rfl (Nat.eq_of_beq_eq_true rfl)) rfl rfl ⟨rfl, trivial⟩ ?_
  refine zab ?_
  by_cases he : x = y
  ·rw [pqB_T he] at hC
   refine zaa ?_
   refine tx ?_
   refine yP (zaq (r := .fn _ _)) ?_
   refine zal (zaL Tryz.underlying91 rfl sz91 (by first | exact Nat.le_of_ble_eq_true rfl | omega | (simp only [AV.cells, List.length_map]; omega)) (show _ = x.cells from rfl)) rfl rfl ⟨rfl, trivial⟩ ?_
   refine zal (zaL Tryz.underlying91 rfl sz91 (by first | exact Nat.le_of_ble_eq_true rfl | omega | (simp only [AV.cells, List.length_map]; omega)) (show _ = y.cells from rfl)) rfl rfl ⟨rfl, trivial⟩ ?_
   refine cS (fun n => 29 + 1000 * n) (hC) Tryz.func90 ?_
   refine yP za0 ?_
   refine zab ?_
   refine zae ?_
   refine zah _ rfl (fun h => ?_) (fun h => ?_)
   ·cases h
   refine zad (za3 (zae ?_))
   refine tx ?_
   refine zac (za4 (by first | exact IntWalk.i64_in _ (by omega) | rfl)) rfl rfl ?_
   refine yM ?_
   refine zab ?_
   refine zae ?_
   refine ⟨u - 1, by omega, _, zaJ id _ _ ?_ ?_ rfl, i + 1, by omega, fun j hj => ?_, rfl⟩
   ·(repeat (first | exact trivial | (refine ⟨⟨(by first | rfl | (simp; done) | (simp; omega)), rfl⟩, ?_⟩)))
   ·exact trivial
   ·by_cases e : j = i
    ·rw [e]; exact hxy he
    ·exact hf j (by omega)
  ·rw [zdB (hbad he)] at hE
   subst hE
   rw [pqB_F (okl x hxm) (okm y hym) he] at hC
   refine zaa ?_
   refine tx ?_
   refine yP (zaq (r := .fn _ _)) ?_
   refine zal (zaL Tryz.underlying91 rfl sz91 (by first | exact Nat.le_of_ble_eq_true rfl | omega | (simp only [AV.cells, List.length_map]; omega)) (show _ = x.cells from rfl)) rfl rfl ⟨rfl, trivial⟩ ?_
   refine zal (zaL Tryz.underlying91 rfl sz91 (by first | exact Nat.le_of_ble_eq_true rfl | omega | (simp only [AV.cells, List.length_map]; omega)) (show _ = y.cells from rfl)) rfl rfl ⟨rfl, trivial⟩ ?_
   refine cS (fun n => 29 + 1000 * n) (hC) Tryz.func90 ?_
   refine yP za0 ?_
   refine zab ?_
   refine zae ?_
   refine zah _ rfl (fun h => ?_) (fun h => ?_)
   ·refine zaa ?_
    refine tx ?_
    refine yA ?_
    refine zab ?_
    refine zaf (zaK (zam (zam (zaK (zam ?_)))))
    refine yT ?_ ?_
    ·exact rfl
    ·exact trivial
   ·cases h
 have hge : i = l.length := by simp at h; omega
 clear h
 subst hge
 rw [zfF (zep hlen hf)] at hE
 subst hE
 refine zaG (zaa ?_)
 refine tx ?_
 refine yA ?_
 refine zab ?_
 refine zaf ?_
 refine yT ?_ ?_
 ·exact rfl
 ·exact trivial
def slV (s : ST) : List Value := s.a.vals ++ s.b.vals ++ s.c.vals
def HS.vals (h : HS) : List Value := [.bool h.lv, .int .i64 h.mine, .string h.nc, .int .i64 h.b, .int .i64 h.s]
noncomputable def stB (x y : ST) : Bool := (((decide (x.key = y.key) && decide (x.ep = y.ep)) && eqL (slV x) (slV y)) && eqL x.h.vals y.h.vals) && eqB x.q y.q
theorem stB_iff {x y : ST} : stB x y = true ↔ x = y := by
 obtain ⟨k, e, a, b, c, h, q⟩ := x
 obtain ⟨k', e', a', b', c', h', q'⟩ := y
 unfold stB
 simp only [Bool.and_eq_true, decide_eq_true_eq, za7, zfn]
 constructor
 ·rintro ⟨⟨⟨⟨h1, h2⟩, h3⟩, h4⟩, h5⟩
  obtain ⟨h6, h7⟩ := List.append_inj h3 rfl
  obtain ⟨h8, h9⟩ := List.append_inj h6 rfl
  have ea : a = a' := KY.eqL_iff.1 (za7.2 h8)
  have eb : b = b' := KY.eqL_iff.1 (za7.2 h9)
  have ec : c = c' := KY.eqL_iff.1 (za7.2 h7)
  obtain ⟨v1, v2, v3, v4, v5⟩ := h
  obtain ⟨u1, u2, u3, u4, u5⟩ := h'
  simp [HS.vals] at h4
  obtain ⟨g1, g2, g3, g4, g5⟩ := h4
  rw [h1, h2, ea, eb, ec, h5, g1, g2, g3, g4, g5]
 ·intro h
  cases h
  exact ⟨⟨⟨⟨rfl, rfl⟩, rfl⟩, rfl⟩, rfl⟩
theorem stB_T {x y : ST} (h : x = y) : stB x y = true := stB_iff.2 h
theorem stB_F {x y : ST} (h : x ≠ y) : stB x y = false := by
 cases hq : stB x y with
 | false => rfl
 | true => exact absurd (stB_iff.1 hq) h
theorem stl_d (x y : ST) (hx : x.B) (hy : y.B) : Fn Tryz.prog 89 [.agg x.cells, .agg y.cells] (.p (.v (.bool (stB x y)))) [] := by
 have hQ := pqsl_d x.q y.q (by have := hx.1; omega) (by have := hy.1; omega) hx.2 hy.2
 clear hx hy
 obtain ⟨k1, e1, a1, b1, c1, h1, q1⟩ := x
 obtain ⟨k2, e2, a2, b2, c2, h2, q2⟩ := y
 dsimp only at hQ
 show Fn Tryz.prog _ [.agg (stC k1 e1 a1 b1 c1 h1 q1.length (q1.flatMap PQ.pv)), .agg (stC k2 e2 a2 b2 c2 h2 q2.length (q2.flatMap PQ.pv))] (.p (.v (.bool ((((decide (k1 = k2) && decide (e1 = e2)) && eqL (a1.vals ++ b1.vals ++ c1.vals) (a2.vals ++ b2.vals ++ c2.vals)) && eqL h1.vals h2.vals) && eqB q1 q2)))) _
 generalize eqB q1 q2 = bn at *
 generalize q1.flatMap PQ.pv = L1 at *
 generalize q2.flatMap PQ.pv = L2 at *
 generalize q1.length = n1 at *
 generalize q2.length = n2 at *
 refine zap Tryz.func89 rfl (Nat.le_of_ble_eq_true rfl) fun w0 A => ?_
 refine zaa ?_
 refine tx ?_
 refine zal (za2 (X := .agg _) 2 rfl) rfl rfl ⟨rfl, trivial⟩ ?_
 refine zal (za2 (X := .agg _) 3 rfl) rfl rfl ⟨rfl, trivial⟩ ?_
 refine yA ?_
 refine zab ?_
 refine zaa ?_
 refine tx ?_
 refine yF zc4 ?_
 refine yL Tryz.underlying9 ?_
 refine yF zc4 ?_
 refine yL Tryz.underlying9 ?_
 (first | refine zac zbQ rfl rfl ?_ | refine zac zd9 rfl rfl ?_)
 refine yM ?_
 (first | refine mb2 _ rfl rfl (fun hb => (zag zci rfl)) (fun _ => trivial) ?_ | refine yF zci ?_)
 (first | refine mb2 _ rfl rfl (fun hb => (zat Tryz.underlying9 rfl (by first | rfl | assumption))) (fun _ => ⟨rfl, trivial⟩) ?_ | refine yL Tryz.underlying9 ?_)
 (first | refine mb2 _ rfl rfl (fun hb => (zag zci rfl)) (fun _ => trivial) ?_ | refine yF zci ?_)
 (first | refine mb2 _ rfl rfl (fun hb => (zat Tryz.underlying9 rfl (by first | rfl | assumption))) (fun _ => ⟨rfl, trivial⟩) ?_ | refine yL Tryz.underlying9 ?_)
 (first | refine mb2 _ rfl rfl (fun hb => zbQ) (fun _ => trivial) ?_ | refine zac zd9 rfl rfl ?_)
 (first | refine zac (zbl (by first | exact id | (simp; done) | grind)) rfl rfl ?_ | refine zac zak rfl rfl ?_)
 refine yM ?_
 (first | refine mb2 _ rfl rfl (fun hb => (zag zbI rfl)) (fun _ => trivial) ?_ | refine yF zbI ?_)
 refine mb2 _ rfl rfl (fun hb => (zaL Tryz.underlying76 rfl sz76 (by first | exact Nat.le_of_ble_eq_true rfl | omega | (simp only [AV.cells, List.length_map]; omega)) (show _ = zcX a1 b1 c1 from rfl))) (fun _ => ⟨rfl, trivial⟩) ?_
 (first | refine mb2 _ rfl rfl (fun hb => (zag zbI rfl)) (fun _ => trivial) ?_ | refine yF zbI ?_)
 refine mb2 _ rfl rfl (fun hb => (zaL Tryz.underlying76 rfl sz76 (by first | exact Nat.le_of_ble_eq_true rfl | omega | (simp only [AV.cells, List.length_map]; omega)) (show _ = zcX a2 b2 c2 from rfl))) (fun _ => ⟨rfl, trivial⟩) ?_
 (first | refine mb2 _ rfl rfl (fun hb => (zdH Tryz.underlying76 rfl rfl (by kernel_rfl) (by kernel_rfl) (by kernel_rfl))) (fun _ => trivial) ?_ | refine zac (a_steqT Tryz.underlying76 rfl (by kernel_rfl) (by kernel_rfl)) rfl rfl ?_)
 (first | refine zac (zbl (by first | exact id | (simp; done) | grind)) rfl rfl ?_ | refine zac zak rfl rfl ?_)
 refine yM ?_
 (first | refine mb2 _ rfl rfl (fun hb => (zag zb1 rfl)) (fun _ => trivial) ?_ | refine yF zb1 ?_)
 refine mb2 _ rfl rfl (fun hb => (zaL Tryz.underlying78 rfl sz78 (by first | exact Nat.le_of_ble_eq_true rfl | omega | (simp only [AV.cells, List.length_map]; omega)) (show _ = h1.cells from rfl))) (fun _ => ⟨rfl, trivial⟩) ?_
 (first | refine mb2 _ rfl rfl (fun hb => (zag zb1 rfl)) (fun _ => trivial) ?_ | refine yF zb1 ?_)
 refine mb2 _ rfl rfl (fun hb => (zaL Tryz.underlying78 rfl sz78 (by first | exact Nat.le_of_ble_eq_true rfl | omega | (simp only [AV.cells, List.length_map]; omega)) (show _ = h2.cells from rfl))) (fun _ => ⟨rfl, trivial⟩) ?_
 (first | refine mb2 _ rfl rfl (fun hb => (zdH Tryz.underlying78 rfl rfl (by kernel_rfl) (by kernel_rfl) (by kernel_rfl))) (fun _ => trivial) ?_ | refine zac (a_steqT Tryz.underlying78 rfl (by kernel_rfl) (by kernel_rfl)) rfl rfl ?_)
 (first | refine zac (zbl (by first | exact id | (simp; done) | grind)) rfl rfl ?_ | refine zac zak rfl rfl ?_)
 refine yM ?_
 (first | refine mb2 _ rfl rfl (fun hb => (zag zcs rfl)) (fun _ => trivial) ?_ | refine yF zcs ?_)
 (first | refine mb2 _ rfl rfl (fun hb => (zat Tryz.underlying79 rfl (by first | rfl | assumption))) (fun _ => ⟨rfl, trivial⟩) ?_ | refine yL Tryz.underlying79 ?_)
 (first | refine mb2 _ rfl rfl (fun hb => (zag zcs rfl)) (fun _ => trivial) ?_ | refine yF zcs ?_)
 (first | refine mb2 _ rfl rfl (fun hb => (zat Tryz.underlying79 rfl (by first | rfl | assumption))) (fun _ => ⟨rfl, trivial⟩) ?_ | refine yL Tryz.underlying79 ?_)
 refine mb2 _ rfl rfl (fun _ => zbd Tryz.func47 rfl rfl (hQ) (by first | rfl | simp [AV.okInL, AV.okIn, zaZ]) rfl) (fun _ => trivial) ?_
 (first | refine zac (zbl (by first | exact id | (simp; done) | grind)) rfl rfl ?_ | refine zac zak rfl rfl ?_)
 refine yA ?_
 refine zab ?_
 refine zaf ?_
 refine yT ?_ ?_
 ·exact rfl
 ·exact trivial
theorem stsl_d (l m : List ST) (hl : l.length ≤ 4611686018427387904) (hm : m.length ≤ 4611686018427387904) (okl : ∀ s ∈ l, s.B) (okm : ∀ s ∈ m, s.B) : Fn Tryz.prog 45 [.p (.sl l.length 41 (l.flatMap ST.pv)), .p (.sl m.length 41 (m.flatMap ST.pv)), .fn 89 []] (.p (.v (.bool (eqB l m)))) [] := by
 by_cases hlen : l.length = m.length
 rotate_left
 ·rw [zdB (fun e => hlen (by rw [e]))]
  generalize l.flatMap ST.pv = L
  generalize m.flatMap ST.pv = M
  generalize l.length = n at *
  generalize m.length = k at *
  refine zap Tryz.func45 rfl (Nat.le_of_ble_eq_true rfl) fun w0 A => ?_
  refine zaa ?_
  refine tx ?_
  refine yA ?_
  refine zab ?_
  refine zaa (zaa ?_)
  refine tx ?_
  refine yM ?_
  refine yP (zaC Tryz.underlying40) ?_
  refine yM ?_
  refine yP (zaC Tryz.underlying40) ?_
  refine zac (zaQ (c := true) (by simp; omega)) rfl rfl ?_
  refine zab ?_
  refine zae ?_
  refine zaD rfl ?_
  refine zaa ?_
  refine tx ?_
  refine yA ?_
  refine zab ?_
  refine zaf (zam ?_)
  refine yT ?_ ?_
  ·exact rfl
  ·exact trivial
 obtain ⟨E, hE⟩ : ∃ E, eqB l m = E := ⟨_, rfl⟩
 rw [hE]
 refine zap Tryz.func45 rfl (Nat.le_of_ble_eq_true rfl) fun w0 A => ?_
 refine zaa ?_
 refine tx ?_
 refine yA ?_
 refine zab ?_
 refine zaa (zaa ?_)
 refine tx ?_
 refine yM ?_
 refine yP (zaC Tryz.underlying40) ?_
 refine yM ?_
 refine yP (zaC Tryz.underlying40) ?_
 refine zac (zaQ (c := false) (by simp; omega)) rfl rfl ?_
 refine zab ?_
 refine zae ?_
 refine zan rfl ?_
 refine zad (zaa (zaa ?_))
 refine tx ?_
 refine yM ?_
 refine yP (zaC Tryz.underlying40) ?_
 refine yM ?_
 refine zab ?_
 refine zaj ?_
 refine zaE (fun u st => ∃ i : Nat, u + i = l.length ∧ (∀ j, j < i → l[j]? = m[j]?) ∧ st = St.of [(1, .p (.sl m.length 41 (m.flatMap ST.pv))), (2, .fn 89 []), (15, .p (.sl l.length 41 (l.flatMap ST.pv))), (16, .p (.v (.int .i64 l.length))), (17, .p (.v (.int .i64 i)))] []) l.length ?_ ?_
 ·refine ⟨_, zaJ id _ _ ?_ ?_ rfl, 0, by omega, by omega, rfl⟩
  ·(repeat (first | exact trivial | (refine ⟨⟨(by first | rfl | (simp; done) | (simp; omega)), rfl⟩, ?_⟩)))
  ·exact trivial
 rintro u st ⟨i, hi, hf, rfl⟩
 refine zaa ?_
 refine tx ?_
 refine yP zaX ?_
 refine zab ?_
 refine zaa ?_
 refine zah _ rfl (fun h => ?_) (fun h => ?_)
 ·have hlt : i < l.length := by simp at h; omega
  clear h
  obtain ⟨x, hx⟩ : ∃ x, l[i]? = some x := ⟨l[i], List.getElem?_eq_getElem hlt⟩
  obtain ⟨y, hy⟩ : ∃ y, m[i]? = some y := ⟨m[i]'(by omega), List.getElem?_eq_getElem (by omega)⟩
  have hch := zaN (f := ST.pv) (k := 41) (fun _ => rfl) hx
  have hle := zaP (f := ST.pv) (k := 41) (fun _ => rfl) hlt
  have hch2 := zaN (f := ST.pv) (k := 41) (fun _ => rfl) hy
  have hle2 := zaP (f := ST.pv) (k := 41) (fun _ => rfl) (show i < m.length by omega)
  have hbad := zeo hx hy
  have hxy : x = y → l[i]? = m[i]? := fun e => by rw [hx, hy, e]
  have hxm := List.mem_of_getElem? hx
  have hym := List.mem_of_getElem? hy
  have hC := stl_d x y (okl x hxm) (okm y hym)
  generalize l.flatMap ST.pv = L at *
  generalize m.flatMap ST.pv = M at *
  refine zad (zaa (zaj (zaa ?_)))
  refine tx ?_
  refine yM ?_
  refine zac (zao Tryz.underlying40 sz81 (by omega) (by omega) rfl) rfl rfl ?_
  refine zac (zaz Tryz.underlying81 rfl sz81 (by first | omega | (simp; done) | (simp; omega)) (hch)) rfl rfl ?_
  refine zal (zaU 8 zr81 rfl) rfl rfl ⟨rfl, trivial⟩ ?_
  refine yA ?_
  refine zal (zaA (Y := .agg x.cells) sz81 rfl rfl (Nat.eq_of_beq_eq_true rfl)) rfl rfl ⟨rfl, trivial⟩ ?_
  refine zab ?_
  refine zaa ?_
  refine tx ?_
  refine yM ?_
  refine yM ?_
  refine zac (zao Tryz.underlying40 sz81 (by omega) (by omega) rfl) rfl rfl ?_
  refine zac (zaz Tryz.underlying81 rfl sz81 (by first | omega | (simp; done) | (simp; omega)) (hch2)) rfl rfl ?_
  refine zal (zaU 9 zr81 rfl) rfl rfl ⟨rfl, trivial⟩ ?_
  refine zal (zaA (Y := .agg y.cells) sz81 rfl rfl (Nat.eq_of_beq_eq_true rfl)) rfl rfl ⟨rfl, trivial⟩ ?_
  refine zab ?_
  by_cases he : x = y
  ·rw [stB_T he] at hC
   refine zaa ?_
   refine tx ?_
   refine yP (zaq (r := .fn _ _)) ?_
   refine zal (zaL Tryz.underlying81 rfl sz81 (by first | exact Nat.le_of_ble_eq_true rfl | omega | (simp only [AV.cells, List.length_map]; omega)) (show _ = x.cells from rfl)) rfl rfl ⟨rfl, trivial⟩ ?_
   refine zal (zaL Tryz.underlying81 rfl sz81 (by first | exact Nat.le_of_ble_eq_true rfl | omega | (simp only [AV.cells, List.length_map]; omega)) (show _ = y.cells from rfl)) rfl rfl ⟨rfl, trivial⟩ ?_
   refine cS (fun n => 29 + 1000 * n) (hC) Tryz.func89 ?_
   refine yP za0 ?_
   refine zab ?_
   refine zae ?_
   refine zah _ rfl (fun h => ?_) (fun h => ?_)
   ·cases h
   refine zad (za3 (zae ?_))
   refine tx ?_
   refine zac (za4 (by first | exact IntWalk.i64_in _ (by omega) | rfl)) rfl rfl ?_
   refine yM ?_
   refine zab ?_
   refine zae ?_
   refine ⟨u - 1, by omega, _, zaJ id _ _ ?_ ?_ rfl, i + 1, by omega, fun j hj => ?_, rfl⟩
   ·(repeat (first | exact trivial | (refine ⟨⟨(by first | rfl | (simp; done) | (simp; omega)), rfl⟩, ?_⟩)))
   ·exact trivial
   ·by_cases e : j = i
    ·rw [e]; exact hxy he
    ·exact hf j (by omega)
  ·rw [zdB (hbad he)] at hE
   subst hE
   rw [stB_F he] at hC
   refine zaa ?_
   refine tx ?_
   refine yP (zaq (r := .fn _ _)) ?_
   refine zal (zaL Tryz.underlying81 rfl sz81 (by first | exact Nat.le_of_ble_eq_true rfl | omega | (simp only [AV.cells, List.length_map]; omega)) (show _ = x.cells from rfl)) rfl rfl ⟨rfl, trivial⟩ ?_
   refine zal (zaL Tryz.underlying81 rfl sz81 (by first | exact Nat.le_of_ble_eq_true rfl | omega | (simp only [AV.cells, List.length_map]; omega)) (show _ = y.cells from rfl)) rfl rfl ⟨rfl, trivial⟩ ?_
   refine cS (fun n => 29 + 1000 * n) (hC) Tryz.func89 ?_
   refine yP za0 ?_
   refine zab ?_
   refine zae ?_
   refine zah _ rfl (fun h => ?_) (fun h => ?_)
   ·refine zaa ?_
    refine tx ?_
    refine yA ?_
    refine zab ?_
    refine zaf (zaK (zam (zam (zaK (zam ?_)))))
    refine yT ?_ ?_
    ·exact rfl
    ·exact trivial
   ·cases h
 have hge : i = l.length := by simp at h; omega
 clear h
 subst hge
 rw [zfF (zep hlen hf)] at hE
 subst hE
 refine zaG (zaa ?_)
 refine tx ?_
 refine yA ?_
 refine zab ?_
 refine zaf ?_
 refine yT ?_ ?_
 ·exact rfl
 ·exact trivial
theorem pqd_d (x y : PQ) : Fn Tryz.prog 48 [.agg x.cells, .agg y.cells] (.p (.v (.bool (pqB x y)))) [] := by
 obtain ⟨a1, b1, x1⟩ := x
 obtain ⟨a2, b2, x2⟩ := y
 have hS := same_s x1.length x2.length x1 x2
 show Fn Tryz.prog _ [.agg [.p (.v (.int .u32 a1)), .p (.v (.int .u32 b1)), .p (.sl x1.length 1 (bs x1))], .agg [.p (.v (.int .u32 a2)), .p (.v (.int .u32 b2)), .p (.sl x2.length 1 (bs x2))]] (.p (.v (.bool (((a1 == a2) && (b1 == b2)) && decide (strOfNums x1 = strOfNums x2))))) _
 generalize x1.length = n1 at *
 generalize x2.length = n2 at *
 refine zap Tryz.func48 rfl (Nat.le_of_ble_eq_true rfl) fun w0 A => ?_
 refine zaa ?_
 refine tx ?_
 refine zal (za2 (X := .agg _) 2 rfl) rfl rfl ⟨rfl, trivial⟩ ?_
 refine zal (za2 (X := .agg _) 3 rfl) rfl rfl ⟨rfl, trivial⟩ ?_
 refine yA ?_
 refine zab ?_
 refine zaa ?_
 refine tx ?_
 refine yF fi91_0 ?_
 refine yL Tryz.underlying50 ?_
 refine yF fi91_0 ?_
 refine yL Tryz.underlying50 ?_
 refine yP zaF ?_
 refine yM ?_
 refine mb2 _ rfl rfl (fun hb => (zag zgQ rfl)) (fun _ => trivial) ?_
 refine mb2 _ rfl rfl (fun hb => (zat Tryz.underlying50 rfl (by first | rfl | assumption))) (fun _ => ⟨rfl, trivial⟩) ?_
 refine mb2 _ rfl rfl (fun hb => (zag zgQ rfl)) (fun _ => trivial) ?_
 refine mb2 _ rfl rfl (fun hb => (zat Tryz.underlying50 rfl (by first | rfl | assumption))) (fun _ => ⟨rfl, trivial⟩) ?_
 refine mb2 _ rfl rfl (fun hb => zaF) (fun _ => trivial) ?_
 refine zac (zbl (by first | exact id | (simp; done) | grind)) rfl rfl ?_
 refine yM ?_
 refine mb2 _ rfl rfl (fun hb => (zag zd2 rfl)) (fun _ => trivial) ?_
 refine mb2 _ rfl rfl (fun hb => (zat Tryz.underlying89 rfl (by first | rfl | assumption))) (fun _ => ⟨rfl, trivial⟩) ?_
 refine mb2 _ rfl rfl (fun hb => (a_b2s Tryz.underlying89 Tryz.underlying5 Tryz.underlying9 (zdJ) rfl rfl)) (fun _ => trivial) ?_
 refine mb2 _ rfl rfl (fun hb => (zag zd2 rfl)) (fun _ => trivial) ?_
 refine mb2 _ rfl rfl (fun hb => (zat Tryz.underlying89 rfl (by first | rfl | assumption))) (fun _ => ⟨rfl, trivial⟩) ?_
 refine mb2 _ rfl rfl (fun hb => (a_b2s Tryz.underlying89 Tryz.underlying5 Tryz.underlying9 (zdJ) rfl rfl)) (fun _ => trivial) ?_
 refine mb2 _ rfl rfl (fun hb => zbQ) (fun _ => trivial) ?_
 refine zac (zbl (by first | exact id | (simp; done) | grind)) rfl rfl ?_
 refine yA ?_
 refine zab ?_
 refine zaf ?_
 refine yT ?_ ?_
 ·exact rfl
 ·exact trivial
theorem pqsd_d (l m : List PQ) (hl : l.length ≤ 4611686018427387904) (hm : m.length ≤ 4611686018427387904) (okl : ∀ p ∈ l, isB p.xs) (okm : ∀ p ∈ m, isB p.xs) : Fn Tryz.prog 47 [.p (.sl l.length 3 (l.flatMap PQ.pv)), .p (.sl m.length 3 (m.flatMap PQ.pv)), .fn 48 []] (.p (.v (.bool (eqB l m)))) [] := by
 by_cases hlen : l.length = m.length
 rotate_left
 ·rw [zdB (fun e => hlen (by rw [e]))]
  generalize l.flatMap PQ.pv = L
  generalize m.flatMap PQ.pv = M
  generalize l.length = n at *
  generalize m.length = k at *
  refine zap Tryz.func47 rfl (Nat.le_of_ble_eq_true rfl) fun w0 A => ?_
  refine zaa ?_
  refine tx ?_
  refine yA ?_
  refine zab ?_
  refine zaa (zaa ?_)
  refine tx ?_
  refine yM ?_
  refine yP (zaC Tryz.underlying79) ?_
  refine yM ?_
  refine yP (zaC Tryz.underlying79) ?_
  refine zac (zaQ (c := true) (by simp; omega)) rfl rfl ?_
  refine zab ?_
  refine zae ?_
  refine zaD rfl ?_
  refine zaa ?_
  refine tx ?_
  refine yA ?_
  refine zab ?_
  refine zaf (zam ?_)
  refine yT ?_ ?_
  ·exact rfl
  ·exact trivial
 obtain ⟨E, hE⟩ : ∃ E, eqB l m = E := ⟨_, rfl⟩
 rw [hE]
 refine zap Tryz.func47 rfl (Nat.le_of_ble_eq_true rfl) fun w0 A => ?_
 refine zaa ?_
 refine tx ?_
 refine yA ?_
 refine zab ?_
 refine zaa (zaa ?_)
 refine tx ?_
 refine yM ?_
 refine yP (zaC Tryz.underlying79) ?_
 refine yM ?_
 refine yP (zaC Tryz.underlying79) ?_
 refine zac (zaQ (c := false) (by simp; omega)) rfl rfl ?_
 refine zab ?_
 refine zae ?_
 refine zan rfl ?_
 refine zad (zaa (zaa ?_))
 refine tx ?_
 refine yM ?_
 refine yP (zaC Tryz.underlying79) ?_
 refine yM ?_
 refine zab ?_
 refine zaj ?_
 refine zaE (fun u st => ∃ i : Nat, u + i = l.length ∧ (∀ j, j < i → l[j]? = m[j]?) ∧ st = St.of [(1, .p (.sl m.length 3 (m.flatMap PQ.pv))), (2, .fn 48 []), (15, .p (.sl l.length 3 (l.flatMap PQ.pv))), (16, .p (.v (.int .i64 l.length))), (17, .p (.v (.int .i64 i)))] []) l.length ?_ ?_
 ·refine ⟨_, zaJ id _ _ ?_ ?_ rfl, 0, by omega, by omega, rfl⟩
  ·(repeat (first | exact trivial | (refine ⟨⟨(by first | rfl | (simp; done) | (simp; omega)), rfl⟩, ?_⟩)))
  ·exact trivial
 rintro u st ⟨i, hi, hf, rfl⟩
 refine zaa ?_
 refine tx ?_
 refine yP zaX ?_
 refine zab ?_
 refine zaa ?_
 refine zah _ rfl (fun h => ?_) (fun h => ?_)
 ·have hlt : i < l.length := by simp at h; omega
  clear h
  obtain ⟨x, hx⟩ : ∃ x, l[i]? = some x := ⟨l[i], List.getElem?_eq_getElem hlt⟩
  obtain ⟨y, hy⟩ : ∃ y, m[i]? = some y := ⟨m[i]'(by omega), List.getElem?_eq_getElem (by omega)⟩
  have hch := zaN (f := PQ.pv) (k := 3) (fun _ => rfl) hx
  have hle := zaP (f := PQ.pv) (k := 3) (fun _ => rfl) hlt
  have hch2 := zaN (f := PQ.pv) (k := 3) (fun _ => rfl) hy
  have hle2 := zaP (f := PQ.pv) (k := 3) (fun _ => rfl) (show i < m.length by omega)
  have hbad := zeo hx hy
  have hxy : x = y → l[i]? = m[i]? := fun e => by rw [hx, hy, e]
  have hxm := List.mem_of_getElem? hx
  have hym := List.mem_of_getElem? hy
  have hC := pqd_d x y
  generalize l.flatMap PQ.pv = L at *
  generalize m.flatMap PQ.pv = M at *
  refine zad (zaa (zaj (zaa ?_)))
  refine tx ?_
  refine yM ?_
  refine zac (zao Tryz.underlying79 sz91 (by omega) (by omega) rfl) rfl rfl ?_
  refine zac (zaz Tryz.underlying91 rfl sz91 (by first | omega | (simp; done) | (simp; omega)) (hch)) rfl rfl ?_
  refine zal (zaU 8 zr91 rfl) rfl rfl ⟨rfl, trivial⟩ ?_
  refine yA ?_
  refine zal (zaA (Y := .agg x.cells) sz91 rfl rfl (Nat.eq_of_beq_eq_true rfl)) rfl rfl ⟨rfl, trivial⟩ ?_
  refine zab ?_
  refine zaa ?_
  refine tx ?_
  refine yM ?_
  refine yM ?_
  refine zac (zao Tryz.underlying79 sz91 (by omega) (by omega) rfl) rfl rfl ?_
  refine zac (zaz Tryz.underlying91 rfl sz91 (by first | omega | (simp; done) | (simp; omega)) (hch2)) rfl rfl ?_
  refine zal (zaU 9 zr91 rfl) rfl rfl ⟨rfl, trivial⟩ ?_
  refine zal (zaA (Y := .agg y.cells) sz91 rfl rfl (Nat.eq_of_beq_eq_true rfl)) rfl rfl ⟨rfl, trivial⟩ ?_
  refine zab ?_
  by_cases he : x = y
  ·rw [pqB_T he] at hC
   refine zaa ?_
   refine tx ?_
   refine yP (zaq (r := .fn _ _)) ?_
   refine zal (zaL Tryz.underlying91 rfl sz91 (by first | exact Nat.le_of_ble_eq_true rfl | omega | (simp only [AV.cells, List.length_map]; omega)) (show _ = x.cells from rfl)) rfl rfl ⟨rfl, trivial⟩ ?_
   refine zal (zaL Tryz.underlying91 rfl sz91 (by first | exact Nat.le_of_ble_eq_true rfl | omega | (simp only [AV.cells, List.length_map]; omega)) (show _ = y.cells from rfl)) rfl rfl ⟨rfl, trivial⟩ ?_
   refine cS (fun n => 29 + 1000 * n) (hC) Tryz.func48 ?_
   refine yP za0 ?_
   refine zab ?_
   refine zae ?_
   refine zah _ rfl (fun h => ?_) (fun h => ?_)
   ·cases h
   refine zad (za3 (zae ?_))
   refine tx ?_
   refine zac (za4 (by first | exact IntWalk.i64_in _ (by omega) | rfl)) rfl rfl ?_
   refine yM ?_
   refine zab ?_
   refine zae ?_
   refine ⟨u - 1, by omega, _, zaJ id _ _ ?_ ?_ rfl, i + 1, by omega, fun j hj => ?_, rfl⟩
   ·(repeat (first | exact trivial | (refine ⟨⟨(by first | rfl | (simp; done) | (simp; omega)), rfl⟩, ?_⟩)))
   ·exact trivial
   ·by_cases e : j = i
    ·rw [e]; exact hxy he
    ·exact hf j (by omega)
  ·rw [zdB (hbad he)] at hE
   subst hE
   rw [pqB_F (okl x hxm) (okm y hym) he] at hC
   refine zaa ?_
   refine tx ?_
   refine yP (zaq (r := .fn _ _)) ?_
   refine zal (zaL Tryz.underlying91 rfl sz91 (by first | exact Nat.le_of_ble_eq_true rfl | omega | (simp only [AV.cells, List.length_map]; omega)) (show _ = x.cells from rfl)) rfl rfl ⟨rfl, trivial⟩ ?_
   refine zal (zaL Tryz.underlying91 rfl sz91 (by first | exact Nat.le_of_ble_eq_true rfl | omega | (simp only [AV.cells, List.length_map]; omega)) (show _ = y.cells from rfl)) rfl rfl ⟨rfl, trivial⟩ ?_
   refine cS (fun n => 29 + 1000 * n) (hC) Tryz.func48 ?_
   refine yP za0 ?_
   refine zab ?_
   refine zae ?_
   refine zah _ rfl (fun h => ?_) (fun h => ?_)
   ·refine zaa ?_
    refine tx ?_
    refine yA ?_
    refine zab ?_
    refine zaf (zaK (zam (zam (zaK (zam ?_)))))
    refine yT ?_ ?_
    ·exact rfl
    ·exact trivial
   ·cases h
 have hge : i = l.length := by simp at h; omega
 clear h
 subst hge
 rw [zfF (zep hlen hf)] at hE
 subst hE
 refine zaG (zaa ?_)
 refine tx ?_
 refine yA ?_
 refine zab ?_
 refine zaf ?_
 refine yT ?_ ?_
 ·exact rfl
 ·exact trivial
theorem std_d (x y : ST) (hx : x.B) (hy : y.B) : Fn Tryz.prog 46 [.agg x.cells, .agg y.cells] (.p (.v (.bool (stB x y)))) [] := by
 have hQ := pqsd_d x.q y.q (by have := hx.1; omega) (by have := hy.1; omega) hx.2 hy.2
 clear hx hy
 obtain ⟨k1, e1, a1, b1, c1, h1, q1⟩ := x
 obtain ⟨k2, e2, a2, b2, c2, h2, q2⟩ := y
 dsimp only at hQ
 show Fn Tryz.prog _ [.agg (stC k1 e1 a1 b1 c1 h1 q1.length (q1.flatMap PQ.pv)), .agg (stC k2 e2 a2 b2 c2 h2 q2.length (q2.flatMap PQ.pv))] (.p (.v (.bool ((((decide (k1 = k2) && decide (e1 = e2)) && eqL (a1.vals ++ b1.vals ++ c1.vals) (a2.vals ++ b2.vals ++ c2.vals)) && eqL h1.vals h2.vals) && eqB q1 q2)))) _
 generalize eqB q1 q2 = bn at *
 generalize q1.flatMap PQ.pv = L1 at *
 generalize q2.flatMap PQ.pv = L2 at *
 generalize q1.length = n1 at *
 generalize q2.length = n2 at *
 refine zap Tryz.func46 rfl (Nat.le_of_ble_eq_true rfl) fun w0 A => ?_
 refine zaa ?_
 refine tx ?_
 refine zal (za2 (X := .agg _) 2 rfl) rfl rfl ⟨rfl, trivial⟩ ?_
 refine zal (za2 (X := .agg _) 3 rfl) rfl rfl ⟨rfl, trivial⟩ ?_
 refine yA ?_
 refine zab ?_
 refine zaa ?_
 refine tx ?_
 refine yF zc4 ?_
 refine yL Tryz.underlying9 ?_
 refine yF zc4 ?_
 refine yL Tryz.underlying9 ?_
 refine yP zbQ ?_
 refine yM ?_
 refine mb2 _ rfl rfl (fun hb => (zag zci rfl)) (fun _ => trivial) ?_
 refine mb2 _ rfl rfl (fun hb => (zat Tryz.underlying9 rfl (by first | rfl | assumption))) (fun _ => ⟨rfl, trivial⟩) ?_
 refine mb2 _ rfl rfl (fun hb => (zag zci rfl)) (fun _ => trivial) ?_
 refine mb2 _ rfl rfl (fun hb => (zat Tryz.underlying9 rfl (by first | rfl | assumption))) (fun _ => ⟨rfl, trivial⟩) ?_
 refine mb2 _ rfl rfl (fun hb => zbQ) (fun _ => trivial) ?_
 refine zac (zbl (by first | exact id | (simp; done) | grind)) rfl rfl ?_
 refine yM ?_
 refine mb2 _ rfl rfl (fun hb => (zag zbI rfl)) (fun _ => trivial) ?_
 refine mb2 _ rfl rfl (fun hb => (zaL Tryz.underlying76 rfl sz76 (by first | exact Nat.le_of_ble_eq_true rfl | omega | (simp only [AV.cells, List.length_map]; omega)) (show _ = zcX a1 b1 c1 from rfl))) (fun _ => ⟨rfl, trivial⟩) ?_
 refine mb2 _ rfl rfl (fun hb => (zag zbI rfl)) (fun _ => trivial) ?_
 refine mb2 _ rfl rfl (fun hb => (zaL Tryz.underlying76 rfl sz76 (by first | exact Nat.le_of_ble_eq_true rfl | omega | (simp only [AV.cells, List.length_map]; omega)) (show _ = zcX a2 b2 c2 from rfl))) (fun _ => ⟨rfl, trivial⟩) ?_
 refine mb2 _ rfl rfl (fun hb => (zdH Tryz.underlying76 rfl rfl (by kernel_rfl) (by kernel_rfl) (by kernel_rfl))) (fun _ => trivial) ?_
 refine zac (zbl (by first | exact id | (simp; done) | grind)) rfl rfl ?_
 refine yM ?_
 refine mb2 _ rfl rfl (fun hb => (zag zb1 rfl)) (fun _ => trivial) ?_
 refine mb2 _ rfl rfl (fun hb => (zaL Tryz.underlying78 rfl sz78 (by first | exact Nat.le_of_ble_eq_true rfl | omega | (simp only [AV.cells, List.length_map]; omega)) (show _ = h1.cells from rfl))) (fun _ => ⟨rfl, trivial⟩) ?_
 refine mb2 _ rfl rfl (fun hb => (zag zb1 rfl)) (fun _ => trivial) ?_
 refine mb2 _ rfl rfl (fun hb => (zaL Tryz.underlying78 rfl sz78 (by first | exact Nat.le_of_ble_eq_true rfl | omega | (simp only [AV.cells, List.length_map]; omega)) (show _ = h2.cells from rfl))) (fun _ => ⟨rfl, trivial⟩) ?_
 refine mb2 _ rfl rfl (fun hb => (zdH Tryz.underlying78 rfl rfl (by kernel_rfl) (by kernel_rfl) (by kernel_rfl))) (fun _ => trivial) ?_
 refine zac (zbl (by first | exact id | (simp; done) | grind)) rfl rfl ?_
 refine yM ?_
 refine mb2 _ rfl rfl (fun hb => (zag zcs rfl)) (fun _ => trivial) ?_
 refine mb2 _ rfl rfl (fun hb => (zat Tryz.underlying79 rfl (by first | rfl | assumption))) (fun _ => ⟨rfl, trivial⟩) ?_
 refine mb2 _ rfl rfl (fun hb => (zag zcs rfl)) (fun _ => trivial) ?_
 refine mb2 _ rfl rfl (fun hb => (zat Tryz.underlying79 rfl (by first | rfl | assumption))) (fun _ => ⟨rfl, trivial⟩) ?_
 refine mb2 _ rfl rfl (fun _ => zbd Tryz.func47 rfl rfl (hQ) (by first | rfl | simp [AV.okInL, AV.okIn, zaZ]) rfl) (fun _ => trivial) ?_
 refine zac (zbl (by first | exact id | (simp; done) | grind)) rfl rfl ?_
 refine yA ?_
 refine zab ?_
 refine zaf ?_
 refine yT ?_ ?_
 ·exact rfl
 ·exact trivial
theorem stsd_d (l m : List ST) (hl : l.length ≤ 4611686018427387904) (hm : m.length ≤ 4611686018427387904) (okl : ∀ s ∈ l, s.B) (okm : ∀ s ∈ m, s.B) : Fn Tryz.prog 45 [.p (.sl l.length 41 (l.flatMap ST.pv)), .p (.sl m.length 41 (m.flatMap ST.pv)), .fn 46 []] (.p (.v (.bool (eqB l m)))) [] := by
 by_cases hlen : l.length = m.length
 rotate_left
 ·rw [zdB (fun e => hlen (by rw [e]))]
  generalize l.flatMap ST.pv = L
  generalize m.flatMap ST.pv = M
  generalize l.length = n at *
  generalize m.length = k at *
  refine zap Tryz.func45 rfl (Nat.le_of_ble_eq_true rfl) fun w0 A => ?_
  refine zaa ?_
  refine tx ?_
  refine yA ?_
  refine zab ?_
  refine zaa (zaa ?_)
  refine tx ?_
  refine yM ?_
  refine yP (zaC Tryz.underlying40) ?_
  refine yM ?_
  refine yP (zaC Tryz.underlying40) ?_
  refine zac (zaQ (c := true) (by simp; omega)) rfl rfl ?_
  refine zab ?_
  refine zae ?_
  refine zaD rfl ?_
  refine zaa ?_
  refine tx ?_
  refine yA ?_
  refine zab ?_
  refine zaf (zam ?_)
  refine yT ?_ ?_
  ·exact rfl
  ·exact trivial
 obtain ⟨E, hE⟩ : ∃ E, eqB l m = E := ⟨_, rfl⟩
 rw [hE]
 refine zap Tryz.func45 rfl (Nat.le_of_ble_eq_true rfl) fun w0 A => ?_
 refine zaa ?_
 refine tx ?_
 refine yA ?_
 refine zab ?_
 refine zaa (zaa ?_)
 refine tx ?_
 refine yM ?_
 refine yP (zaC Tryz.underlying40) ?_
 refine yM ?_
 refine yP (zaC Tryz.underlying40) ?_
 refine zac (zaQ (c := false) (by simp; omega)) rfl rfl ?_
 refine zab ?_
 refine zae ?_
 refine zan rfl ?_
 refine zad (zaa (zaa ?_))
 refine tx ?_
 refine yM ?_
 refine yP (zaC Tryz.underlying40) ?_
 refine yM ?_
 refine zab ?_
 refine zaj ?_
 refine zaE (fun u st => ∃ i : Nat, u + i = l.length ∧ (∀ j, j < i → l[j]? = m[j]?) ∧ st = St.of [(1, .p (.sl m.length 41 (m.flatMap ST.pv))), (2, .fn 46 []), (15, .p (.sl l.length 41 (l.flatMap ST.pv))), (16, .p (.v (.int .i64 l.length))), (17, .p (.v (.int .i64 i)))] []) l.length ?_ ?_
 ·refine ⟨_, zaJ id _ _ ?_ ?_ rfl, 0, by omega, by omega, rfl⟩
  ·(repeat (first | exact trivial | (refine ⟨⟨(by first | rfl | (simp; done) | (simp; omega)), rfl⟩, ?_⟩)))
  ·exact trivial
 rintro u st ⟨i, hi, hf, rfl⟩
 refine zaa ?_
 refine tx ?_
 refine yP zaX ?_
 refine zab ?_
 refine zaa ?_
 refine zah _ rfl (fun h => ?_) (fun h => ?_)
 ·have hlt : i < l.length := by simp at h; omega
  clear h
  obtain ⟨x, hx⟩ : ∃ x, l[i]? = some x := ⟨l[i], List.getElem?_eq_getElem hlt⟩
  obtain ⟨y, hy⟩ : ∃ y, m[i]? = some y := ⟨m[i]'(by omega), List.getElem?_eq_getElem (by omega)⟩
  have hch := zaN (f := ST.pv) (k := 41) (fun _ => rfl) hx
  have hle := zaP (f := ST.pv) (k := 41) (fun _ => rfl) hlt
  have hch2 := zaN (f := ST.pv) (k := 41) (fun _ => rfl) hy
  have hle2 := zaP (f := ST.pv) (k := 41) (fun _ => rfl) (show i < m.length by omega)
  have hbad := zeo hx hy
  have hxy : x = y → l[i]? = m[i]? := fun e => by rw [hx, hy, e]
  have hxm := List.mem_of_getElem? hx
  have hym := List.mem_of_getElem? hy
  have hC := std_d x y (okl x hxm) (okm y hym)
  generalize l.flatMap ST.pv = L at *
  generalize m.flatMap ST.pv = M at *
  refine zad (zaa (zaj (zaa ?_)))
  refine tx ?_
  refine yM ?_
  refine zac (zao Tryz.underlying40 sz81 (by omega) (by omega) rfl) rfl rfl ?_
  refine zac (zaz Tryz.underlying81 rfl sz81 (by first | omega | (simp; done) | (simp; omega)) (hch)) rfl rfl ?_
  refine zal (zaU 8 zr81 rfl) rfl rfl ⟨rfl, trivial⟩ ?_
  refine yA ?_
  refine zal (zaA (Y := .agg x.cells) sz81 rfl rfl (Nat.eq_of_beq_eq_true rfl)) rfl rfl ⟨rfl, trivial⟩ ?_
  refine zab ?_
  refine zaa ?_
  refine tx ?_
  refine yM ?_
  refine yM ?_
  refine zac (zao Tryz.underlying40 sz81 (by omega) (by omega) rfl) rfl rfl ?_
  refine zac (zaz Tryz.underlying81 rfl sz81 (by first | omega | (simp; done) | (simp; omega)) (hch2)) rfl rfl ?_
  refine zal (zaU 9 zr81 rfl) rfl rfl ⟨rfl, trivial⟩ ?_
  refine zal (zaA (Y := .agg y.cells) sz81 rfl rfl (Nat.eq_of_beq_eq_true rfl)) rfl rfl ⟨rfl, trivial⟩ ?_
  refine zab ?_
  by_cases he : x = y
  ·rw [stB_T he] at hC
   refine zaa ?_
   refine tx ?_
   refine yP (zaq (r := .fn _ _)) ?_
   refine zal (zaL Tryz.underlying81 rfl sz81 (by first | exact Nat.le_of_ble_eq_true rfl | omega | (simp only [AV.cells, List.length_map]; omega)) (show _ = x.cells from rfl)) rfl rfl ⟨rfl, trivial⟩ ?_
   refine zal (zaL Tryz.underlying81 rfl sz81 (by first | exact Nat.le_of_ble_eq_true rfl | omega | (simp only [AV.cells, List.length_map]; omega)) (show _ = y.cells from rfl)) rfl rfl ⟨rfl, trivial⟩ ?_
   refine cS (fun n => 29 + 1000 * n) (hC) Tryz.func46 ?_
   refine yP za0 ?_
   refine zab ?_
   refine zae ?_
   refine zah _ rfl (fun h => ?_) (fun h => ?_)
   ·cases h
   refine zad (za3 (zae ?_))
   refine tx ?_
   refine zac (za4 (by first | exact IntWalk.i64_in _ (by omega) | rfl)) rfl rfl ?_
   refine yM ?_
   refine zab ?_
   refine zae ?_
   refine ⟨u - 1, by omega, _, zaJ id _ _ ?_ ?_ rfl, i + 1, by omega, fun j hj => ?_, rfl⟩
   ·(repeat (first | exact trivial | (refine ⟨⟨(by first | rfl | (simp; done) | (simp; omega)), rfl⟩, ?_⟩)))
   ·exact trivial
   ·by_cases e : j = i
    ·rw [e]; exact hxy he
    ·exact hf j (by omega)
  ·rw [zdB (hbad he)] at hE
   subst hE
   rw [stB_F he] at hC
   refine zaa ?_
   refine tx ?_
   refine yP (zaq (r := .fn _ _)) ?_
   refine zal (zaL Tryz.underlying81 rfl sz81 (by first | exact Nat.le_of_ble_eq_true rfl | omega | (simp only [AV.cells, List.length_map]; omega)) (show _ = x.cells from rfl)) rfl rfl ⟨rfl, trivial⟩ ?_
   refine zal (zaL Tryz.underlying81 rfl sz81 (by first | exact Nat.le_of_ble_eq_true rfl | omega | (simp only [AV.cells, List.length_map]; omega)) (show _ = y.cells from rfl)) rfl rfl ⟨rfl, trivial⟩ ?_
   refine cS (fun n => 29 + 1000 * n) (hC) Tryz.func46 ?_
   refine yP za0 ?_
   refine zab ?_
   refine zae ?_
   refine zah _ rfl (fun h => ?_) (fun h => ?_)
   ·refine zaa ?_
    refine tx ?_
    refine yA ?_
    refine zab ?_
    refine zaf (zaK (zam (zam (zaK (zam ?_)))))
    refine yT ?_ ?_
    ·exact rfl
    ·exact trivial
   ·cases h
 have hge : i = l.length := by simp at h; omega
 clear h
 subst hge
 rw [zfF (zep hlen hf)] at hE
 subst hE
 refine zaG (zaa ?_)
 refine tx ?_
 refine yA ?_
 refine zab ?_
 refine zaf ?_
 refine yT ?_ ?_
 ·exact rfl
 ·exact trivial
theorem sameStates_d (l m : List ST) (hl : l.length ≤ 1048576) (hm : m.length ≤ 1048576) (okl : ∀ s ∈ l, s.B) (okm : ∀ s ∈ m, s.B) : Fn Tryz.prog 52 [.p (.sl l.length 41 (l.flatMap ST.pv)), .p (.sl m.length 41 (m.flatMap ST.pv))] (.p (.v (.bool (eqB l m)))) [] := by
 have hC := stsl_d l m (by omega) (by omega) okl okm
 clear hl hm okl okm
 generalize eqB l m = bn at *
 generalize l.flatMap ST.pv = L at *
 generalize l.length = N at *
 generalize m.flatMap ST.pv = L' at *
 generalize m.length = N' at *
 refine zap Tryz.func52 rfl (Nat.le_of_ble_eq_true rfl) fun w0 A => ?_
 refine zaa ?_
 refine tx ?_
 refine yA ?_
 refine zab ?_
 refine zaa ?_
 refine tx ?_
 refine yM ?_
 refine yM ?_
 refine cS (fun n => 7 + 1000 * n) (hC) Tryz.func45 ?_
 refine yA ?_
 refine zab ?_
 refine zaf ?_
 refine yT ?_ ?_
 ·exact rfl
 ·exact trivial
end Go.Proofs.YtgpleldhddpcgaaGreatDoor
