/- Are two configurations the same? law.sameConf, diff.Same, over data. -/
import Derived.Test.YtgpleldhddpcgaaGreatDoorSCf2
namespace Go.Proofs.YtgpleldhddpcgaaGreatDoor
open Go.RowKit Go.Sort
set_option linter.unusedVariables false
set_option linter.unusedSimpArgs false
set_option maxRecDepth 100000
noncomputable def peB (x y : PE) : Bool := (((decide (x.key = y.key) && decide (x.sh = y.sh)) && decide (x.ep = y.ep)) && (x.al == y.al)) && eqB x.nets y.nets
theorem peB_iff {x y : PE} : peB x y = true ↔ x = y := by
 obtain ⟨a, b, c, d, e⟩ := x
 obtain ⟨a', b', c', d', e'⟩ := y
 unfold peB
 simp [zfn, and_assoc]
theorem peB_T {x y : PE} (h : x = y) : peB x y = true := peB_iff.2 h
theorem peB_F {x y : PE} (h : x ≠ y) : peB x y = false := by
 cases hq : peB x y with
 | false => rfl
 | true => exact absurd (peB_iff.1 hq) h
theorem pel_d (x y : PE) (hx : x.nets.length ≤ 1048576) (hy : y.nets.length ≤ 1048576) : Fn Tryz.prog 77 [.agg x.cells, .agg y.cells] (.p (.v (.bool (peB x y)))) [] := by
 have hN := eqNets_d x.nets y.nets (by omega) (by omega)
 obtain ⟨k1, s1, e1, a1, n1⟩ := x
 obtain ⟨k2, s2, e2, a2, n2⟩ := y
 dsimp only at hN
 show Fn Tryz.prog _ [.agg [.p (.v (.string k1)), .p (.v (.string s1)), .p (.v (.string e1)), .p (.v (.int .i64 a1)), .p (.sl n1.length 2 (n1.flatMap ntC))], .agg [.p (.v (.string k2)), .p (.v (.string s2)), .p (.v (.string e2)), .p (.v (.int .i64 a2)), .p (.sl n2.length 2 (n2.flatMap ntC))]] (.p (.v (.bool ((((decide (k1 = k2) && decide (s1 = s2)) && decide (e1 = e2)) && (a1 == a2)) && eqB n1 n2)))) _
 clear hx hy
 generalize eqB n1 n2 = bn at *
 generalize n1.flatMap ntC = L1 at *
 generalize n2.flatMap ntC = L2 at *
 generalize n1.length = c1 at *
 generalize n2.length = c2 at *
 refine zap Tryz.func77 rfl (Nat.le_of_ble_eq_true rfl) fun w0 A => ?_
 refine zaa ?_
 refine tx ?_
 refine zal (za2 (X := .agg _) 2 rfl) rfl rfl ⟨rfl, trivial⟩ ?_
 refine zal (za2 (X := .agg _) 3 rfl) rfl rfl ⟨rfl, trivial⟩ ?_
 refine yA ?_
 refine zab ?_
 refine zaa ?_
 refine tx ?_
 refine yF zbJ ?_
 refine yL Tryz.underlying9 ?_
 refine yF zbJ ?_
 refine yL Tryz.underlying9 ?_
 (first | refine zac zbQ rfl rfl ?_ | refine zac zd9 rfl rfl ?_)
 refine yM ?_
 (first | refine mb2 _ rfl rfl (fun hb => (zag zck rfl)) (fun _ => trivial) ?_ | refine yF zck ?_)
 (first | refine mb2 _ rfl rfl (fun hb => (zat Tryz.underlying9 rfl (by first | rfl | assumption))) (fun _ => ⟨rfl, trivial⟩) ?_ | refine yL Tryz.underlying9 ?_)
 (first | refine mb2 _ rfl rfl (fun hb => (zag zck rfl)) (fun _ => trivial) ?_ | refine yF zck ?_)
 (first | refine mb2 _ rfl rfl (fun hb => (zat Tryz.underlying9 rfl (by first | rfl | assumption))) (fun _ => ⟨rfl, trivial⟩) ?_ | refine yL Tryz.underlying9 ?_)
 (first | refine mb2 _ rfl rfl (fun hb => zbQ) (fun _ => trivial) ?_ | refine zac zd9 rfl rfl ?_)
 (first | refine zac (zbl (by first | exact id | (simp; done) | grind)) rfl rfl ?_ | refine zac zak rfl rfl ?_)
 refine yM ?_
 (first | refine mb2 _ rfl rfl (fun hb => (zag zdM rfl)) (fun _ => trivial) ?_ | refine yF zdM ?_)
 (first | refine mb2 _ rfl rfl (fun hb => (zat Tryz.underlying9 rfl (by first | rfl | assumption))) (fun _ => ⟨rfl, trivial⟩) ?_ | refine yL Tryz.underlying9 ?_)
 (first | refine mb2 _ rfl rfl (fun hb => (zag zdM rfl)) (fun _ => trivial) ?_ | refine yF zdM ?_)
 (first | refine mb2 _ rfl rfl (fun hb => (zat Tryz.underlying9 rfl (by first | rfl | assumption))) (fun _ => ⟨rfl, trivial⟩) ?_ | refine yL Tryz.underlying9 ?_)
 (first | refine mb2 _ rfl rfl (fun hb => zbQ) (fun _ => trivial) ?_ | refine zac zd9 rfl rfl ?_)
 (first | refine zac (zbl (by first | exact id | (simp; done) | grind)) rfl rfl ?_ | refine zac zak rfl rfl ?_)
 refine yM ?_
 (first | refine mb2 _ rfl rfl (fun hb => (zag zes rfl)) (fun _ => trivial) ?_ | refine yF zes ?_)
 (first | refine mb2 _ rfl rfl (fun hb => (zat Tryz.underlying3 rfl (by first | rfl | assumption))) (fun _ => ⟨rfl, trivial⟩) ?_ | refine yL Tryz.underlying3 ?_)
 (first | refine mb2 _ rfl rfl (fun hb => (zag zes rfl)) (fun _ => trivial) ?_ | refine yF zes ?_)
 (first | refine mb2 _ rfl rfl (fun hb => (zat Tryz.underlying3 rfl (by first | rfl | assumption))) (fun _ => ⟨rfl, trivial⟩) ?_ | refine yL Tryz.underlying3 ?_)
 (first | refine mb2 _ rfl rfl (fun hb => zaF) (fun _ => trivial) ?_ | refine zac zb6 rfl rfl ?_)
 (first | refine zac (zbl (by first | exact id | (simp; done) | grind)) rfl rfl ?_ | refine zac zak rfl rfl ?_)
 refine yM ?_
 (first | refine mb2 _ rfl rfl (fun hb => (zag zcj rfl)) (fun _ => trivial) ?_ | refine yF zcj ?_)
 (first | refine mb2 _ rfl rfl (fun hb => (zat Tryz.underlying47 rfl (by first | rfl | assumption))) (fun _ => ⟨rfl, trivial⟩) ?_ | refine yL Tryz.underlying47 ?_)
 (first | refine mb2 _ rfl rfl (fun hb => (zag zcj rfl)) (fun _ => trivial) ?_ | refine yF zcj ?_)
 (first | refine mb2 _ rfl rfl (fun hb => (zat Tryz.underlying47 rfl (by first | rfl | assumption))) (fun _ => ⟨rfl, trivial⟩) ?_ | refine yL Tryz.underlying47 ?_)
 refine mb2 _ rfl rfl (fun _ => zbd Tryz.func78 rfl rfl (hN) (by first | rfl | simp [AV.okInL, AV.okIn, zaZ]) rfl) (fun _ => trivial) ?_
 (first | refine zac (zbl (by first | exact id | (simp; done) | grind)) rfl rfl ?_ | refine zac zak rfl rfl ?_)
 refine yA ?_
 refine zab ?_
 refine zaf ?_
 refine yT ?_ ?_
 ·exact rfl
 ·exact trivial
theorem pesl_d (l m : List PE) (hl : l.length ≤ 4611686018427387904) (hm : m.length ≤ 4611686018427387904) (okl : ∀ p ∈ l, p.OK ∧ p.nets.length ≤ 1048576) (okm : ∀ p ∈ m, p.OK ∧ p.nets.length ≤ 1048576) : Fn Tryz.prog 76 [.p (.sl l.length 5 (l.flatMap PE.pv)), .p (.sl m.length 5 (m.flatMap PE.pv)), .fn 77 []] (.p (.v (.bool (eqB l m)))) [] := by
 by_cases hlen : l.length = m.length
 rotate_left
 ·rw [zdB (fun e => hlen (by rw [e]))]
  generalize l.flatMap PE.pv = L
  generalize m.flatMap PE.pv = M
  generalize l.length = n at *
  generalize m.length = k at *
  refine zap Tryz.func76 rfl (Nat.le_of_ble_eq_true rfl) fun w0 A => ?_
  refine zaa ?_
  refine tx ?_
  refine yA ?_
  refine zab ?_
  refine zaa (zaa ?_)
  refine tx ?_
  refine yM ?_
  refine yP (zaC Tryz.underlying22) ?_
  refine yM ?_
  refine yP (zaC Tryz.underlying22) ?_
  refine zac (zaQ (c := true) (by simp; omega)) rfl rfl ?_
  refine zab ?_
  refine zae ?_
  refine zaD rfl ?_
  refine zaa ?_
  refine tx ?_
  refine yA ?_
  refine zab ?_
  refine zaf (zam ?_)
  refine yT ?_ ?_
  ·exact rfl
  ·exact trivial
 obtain ⟨E, hE⟩ : ∃ E, eqB l m = E := ⟨_, rfl⟩
 rw [hE]
 refine zap Tryz.func76 rfl (Nat.le_of_ble_eq_true rfl) fun w0 A => ?_
 refine zaa ?_
 refine tx ?_
 refine yA ?_
 refine zab ?_
 refine zaa (zaa ?_)
 refine tx ?_
 refine yM ?_
 (first | refine zac (zaC Tryz.underlying22) rfl rfl ?_ | refine zac (zdI Tryz.underlying22) rfl rfl ?_)
 refine yM ?_
 (first | refine zac (zaC Tryz.underlying22) rfl rfl ?_ | refine zac (zdI Tryz.underlying22) rfl rfl ?_)
 refine zac (zaQ (c := false) (by simp; omega)) rfl rfl ?_
 refine zab ?_
 refine zae ?_
 refine zan rfl ?_
 refine zad (zaa (zaa ?_))
 refine tx ?_
 refine yM ?_
 refine yP (zaC Tryz.underlying22) ?_
 refine yM ?_
 refine zab ?_
 refine zaj ?_
 refine zaE (fun u st => ∃ i : Nat, u + i = l.length ∧ (∀ j, j < i → l[j]? = m[j]?) ∧ st = St.of [(1, .p (.sl m.length 5 (m.flatMap PE.pv))), (2, .fn 77 []), (15, .p (.sl l.length 5 (l.flatMap PE.pv))), (16, .p (.v (.int .i64 l.length))), (17, .p (.v (.int .i64 i)))] []) l.length ?_ ?_
 ·refine ⟨_, zaJ id _ _ ?_ ?_ rfl, 0, by omega, by omega, rfl⟩
  ·(repeat (first | exact trivial | (refine ⟨⟨(by first | rfl | (simp; done) | (simp; omega)), rfl⟩, ?_⟩)))
  ·exact trivial
 rintro u st ⟨i, hi, hf, rfl⟩
 refine zaa ?_
 refine tx ?_
 refine yP zaX ?_
 refine zab ?_
 refine zaa ?_
 refine zah _ rfl (fun h => ?_) (fun h => ?_)
 ·have hlt : i < l.length := by simp at h; omega
  clear h
  obtain ⟨x, hx⟩ : ∃ x, l[i]? = some x := ⟨l[i], List.getElem?_eq_getElem hlt⟩
  obtain ⟨y, hy⟩ : ∃ y, m[i]? = some y := ⟨m[i]'(by omega), List.getElem?_eq_getElem (by omega)⟩
  have hch := zaN (f := PE.pv) (k := 5) (fun _ => rfl) hx
  have hle := zaP (f := PE.pv) (k := 5) (fun _ => rfl) hlt
  have hch2 := zaN (f := PE.pv) (k := 5) (fun _ => rfl) hy
  have hle2 := zaP (f := PE.pv) (k := 5) (fun _ => rfl) (show i < m.length by omega)
  have hbad := zeo hx hy
  have hxy : x = y → l[i]? = m[i]? := fun e => by rw [hx, hy, e]
  have hxm := List.mem_of_getElem? hx
  have hym := List.mem_of_getElem? hy
  have hC := pel_d x y (okl x hxm).2 (okm y hym).2
  generalize l.flatMap PE.pv = L at *
  generalize m.flatMap PE.pv = M at *
  refine zad (zaa (zaj (zaa ?_)))
  refine tx ?_
  refine yM ?_
  refine zac (zao Tryz.underlying22 sz49 (by omega) (by omega) rfl) rfl rfl ?_
  refine zac (zaz Tryz.underlying49 rfl sz49 (by first | omega | (simp; done) | (simp; omega)) (hch)) rfl rfl ?_
  refine zal (zaU 8 zr49 rfl) rfl rfl ⟨rfl, trivial⟩ ?_
  refine yA ?_
  refine zal (zaA (Y := .agg x.cells) sz49 rfl rfl (Nat.eq_of_beq_eq_true rfl)) rfl rfl ⟨rfl, trivial⟩ ?_
  refine zab ?_
  refine zaa ?_
  refine tx ?_
  refine yM ?_
  refine yM ?_
  refine zac (zao Tryz.underlying22 sz49 (by omega) (by omega) rfl) rfl rfl ?_
  refine zac (zaz Tryz.underlying49 rfl sz49 (by first | omega | (simp; done) | (simp; omega)) (hch2)) rfl rfl ?_
  refine zal (zaU 9 zr49 rfl) rfl rfl ⟨rfl, trivial⟩ ?_
  refine zal (zaA (Y := .agg y.cells) sz49 rfl rfl (Nat.eq_of_beq_eq_true rfl)) rfl rfl ⟨rfl, trivial⟩ ?_
  refine zab ?_
  by_cases he : x = y
  ·rw [peB_T he] at hC
   refine zaa ?_
   refine tx ?_
   refine yP (zaq (r := .fn _ _)) ?_
   refine zal (zaL Tryz.underlying49 rfl sz49 (by first | exact Nat.le_of_ble_eq_true rfl | omega | (simp only [AV.cells, List.length_map]; omega)) (show _ = x.cells from rfl)) rfl rfl ⟨rfl, trivial⟩ ?_
   refine zal (zaL Tryz.underlying49 rfl sz49 (by first | exact Nat.le_of_ble_eq_true rfl | omega | (simp only [AV.cells, List.length_map]; omega)) (show _ = y.cells from rfl)) rfl rfl ⟨rfl, trivial⟩ ?_
   refine cS (fun n => 29 + 1000 * n) (hC) Tryz.func77 ?_
   refine yP za0 ?_
   refine zab ?_
   refine zae ?_
   refine zah _ rfl (fun h => ?_) (fun h => ?_)
   ·cases h
   refine zad (za3 (zae ?_))
   refine tx ?_
   refine zac (za4 (by first | exact IntWalk.i64_in _ (by omega) | rfl)) rfl rfl ?_
   refine yM ?_
   refine zab ?_
   refine zae ?_
   refine ⟨u - 1, by omega, _, zaJ id _ _ ?_ ?_ rfl, i + 1, by omega, fun j hj => ?_, rfl⟩
   ·(repeat (first | exact trivial | (refine ⟨⟨(by first | rfl | (simp; done) | (simp; omega)), rfl⟩, ?_⟩)))
   ·exact trivial
   ·by_cases e : j = i
    ·rw [e]; exact hxy he
    ·exact hf j (by omega)
  ·rw [zdB (hbad he)] at hE
   subst hE
   rw [peB_F he] at hC
   refine zaa ?_
   refine tx ?_
   refine yP (zaq (r := .fn _ _)) ?_
   refine zal (zaL Tryz.underlying49 rfl sz49 (by first | exact Nat.le_of_ble_eq_true rfl | omega | (simp only [AV.cells, List.length_map]; omega)) (show _ = x.cells from rfl)) rfl rfl ⟨rfl, trivial⟩ ?_
   refine zal (zaL Tryz.underlying49 rfl sz49 (by first | exact Nat.le_of_ble_eq_true rfl | omega | (simp only [AV.cells, List.length_map]; omega)) (show _ = y.cells from rfl)) rfl rfl ⟨rfl, trivial⟩ ?_
   refine cS (fun n => 29 + 1000 * n) (hC) Tryz.func77 ?_
   refine yP za0 ?_
   refine zab ?_
   refine zae ?_
   refine zah _ rfl (fun h => ?_) (fun h => ?_)
   ·refine zaa ?_
    refine tx ?_
    refine yA ?_
    refine zab ?_
    refine zaf (zaK (zam (zam (zaK (zam ?_)))))
    refine yT ?_ ?_
    ·exact rfl
    ·exact trivial
   ·cases h
 have hge : i = l.length := by simp at h; omega
 clear h
 subst hge
 rw [zfF (zep hlen hf)] at hE
 subst hE
 refine zaG (zaa ?_)
 refine tx ?_
 refine yA ?_
 refine zab ?_
 refine zaf ?_
 refine yT ?_ ?_
 ·exact rfl
 ·exact trivial
noncomputable def cfB (c d : CF) : Bool := (decide (c.key = d.key) && (c.port == d.port)) && eqB c.ps d.ps
theorem zgF (c d : CF) (ok : c.OK) (od : d.OK) : Fn Tryz.prog 34 [.agg c.cells, .agg d.cells] (.p (.v (.bool (cfB c d)))) [] := by
 have hQ := pesl_d c.ps d.ps (by have := ok.len; omega) (by have := od.len; omega) ok.ps od.ps
 obtain ⟨k1, p1, l1'⟩ := c
 obtain ⟨k2, p2, l2'⟩ := d
 dsimp only at hQ
 show Fn Tryz.prog _ [.agg [.p (.v (.string k1)), .p (.v (.int .i64 p1)), .p (.sl l1'.length 5 (l1'.flatMap PE.pv))], .agg [.p (.v (.string k2)), .p (.v (.int .i64 p2)), .p (.sl l2'.length 5 (l2'.flatMap PE.pv))]] (.p (.v (.bool ((decide (k1 = k2) && (p1 == p2)) && eqB l1' l2')))) _
 clear ok od
 generalize eqB l1' l2' = bn at *
 generalize l1'.flatMap PE.pv = L1 at *
 generalize l2'.flatMap PE.pv = L2 at *
 generalize l1'.length = c1 at *
 generalize l2'.length = c2 at *
 refine zap Tryz.func34 rfl (Nat.le_of_ble_eq_true rfl) fun w0 A => ?_
 refine zaa ?_
 refine tx ?_
 refine zal (za2 (X := .agg _) 2 rfl) rfl rfl ⟨rfl, trivial⟩ ?_
 refine zal (za2 (X := .agg _) 3 rfl) rfl rfl ⟨rfl, trivial⟩ ?_
 refine yA ?_
 refine zab ?_
 refine zaa ?_
 refine tx ?_
 refine yF zbo ?_
 refine yL Tryz.underlying9 ?_
 refine yF zbo ?_
 refine yL Tryz.underlying9 ?_
 (first | refine zac zbQ rfl rfl ?_ | refine zac zd9 rfl rfl ?_)
 refine yM ?_
 (first | refine mb2 _ rfl rfl (fun hb => (zag zdP rfl)) (fun _ => trivial) ?_ | refine yF zdP ?_)
 (first | refine mb2 _ rfl rfl (fun hb => (zat Tryz.underlying3 rfl (by first | rfl | assumption))) (fun _ => ⟨rfl, trivial⟩) ?_ | refine yL Tryz.underlying3 ?_)
 (first | refine mb2 _ rfl rfl (fun hb => (zag zdP rfl)) (fun _ => trivial) ?_ | refine yF zdP ?_)
 (first | refine mb2 _ rfl rfl (fun hb => (zat Tryz.underlying3 rfl (by first | rfl | assumption))) (fun _ => ⟨rfl, trivial⟩) ?_ | refine yL Tryz.underlying3 ?_)
 (first | refine mb2 _ rfl rfl (fun hb => zaF) (fun _ => trivial) ?_ | refine zac zb6 rfl rfl ?_)
 (first | refine zac (zbl (by first | exact id | (simp; done) | grind)) rfl rfl ?_ | refine zac zak rfl rfl ?_)
 refine yM ?_
 (first | refine mb2 _ rfl rfl (fun hb => (zag zbO rfl)) (fun _ => trivial) ?_ | refine yF zbO ?_)
 (first | refine mb2 _ rfl rfl (fun hb => (zat Tryz.underlying22 rfl (by first | rfl | assumption))) (fun _ => ⟨rfl, trivial⟩) ?_ | refine yL Tryz.underlying22 ?_)
 (first | refine mb2 _ rfl rfl (fun hb => (zag zbO rfl)) (fun _ => trivial) ?_ | refine yF zbO ?_)
 (first | refine mb2 _ rfl rfl (fun hb => (zat Tryz.underlying22 rfl (by first | rfl | assumption))) (fun _ => ⟨rfl, trivial⟩) ?_ | refine yL Tryz.underlying22 ?_)
 refine mb2 _ rfl rfl (fun _ => zbd Tryz.func76 rfl rfl (hQ) (by first | rfl | simp [AV.okInL, AV.okIn, zaZ]) rfl) (fun _ => trivial) ?_
 (first | refine zac (zbl (by first | exact id | (simp; done) | grind)) rfl rfl ?_ | refine zac zak rfl rfl ?_)
 refine yA ?_
 refine zab ?_
 refine zaf ?_
 refine yT ?_ ?_
 ·exact rfl
 ·exact trivial
theorem ped_d (x y : PE) (hx : x.nets.length ≤ 1048576) (hy : y.nets.length ≤ 1048576) : Fn Tryz.prog 85 [.agg x.cells, .agg y.cells] (.p (.v (.bool (peB x y)))) [] := by
 have hN := eqNets_d x.nets y.nets (by omega) (by omega)
 obtain ⟨k1, s1, e1, a1, n1⟩ := x
 obtain ⟨k2, s2, e2, a2, n2⟩ := y
 dsimp only at hN
 show Fn Tryz.prog _ [.agg [.p (.v (.string k1)), .p (.v (.string s1)), .p (.v (.string e1)), .p (.v (.int .i64 a1)), .p (.sl n1.length 2 (n1.flatMap ntC))], .agg [.p (.v (.string k2)), .p (.v (.string s2)), .p (.v (.string e2)), .p (.v (.int .i64 a2)), .p (.sl n2.length 2 (n2.flatMap ntC))]] (.p (.v (.bool ((((decide (k1 = k2) && decide (s1 = s2)) && decide (e1 = e2)) && (a1 == a2)) && eqB n1 n2)))) _
 clear hx hy
 generalize eqB n1 n2 = bn at *
 generalize n1.flatMap ntC = L1 at *
 generalize n2.flatMap ntC = L2 at *
 generalize n1.length = c1 at *
 generalize n2.length = c2 at *
 refine zap Tryz.func85 rfl (Nat.le_of_ble_eq_true rfl) fun w0 A => ?_
 refine zaa ?_
 refine tx ?_
 refine zal (za2 (X := .agg _) 2 rfl) rfl rfl ⟨rfl, trivial⟩ ?_
 refine zal (za2 (X := .agg _) 3 rfl) rfl rfl ⟨rfl, trivial⟩ ?_
 refine yA ?_
 refine zab ?_
 refine zaa ?_
 refine tx ?_
 refine yF zbJ ?_
 refine yL Tryz.underlying9 ?_
 refine yF zbJ ?_
 refine yL Tryz.underlying9 ?_
 refine yP zbQ ?_
 refine yM ?_
 refine mb2 _ rfl rfl (fun hb => (zag zck rfl)) (fun _ => trivial) ?_
 refine mb2 _ rfl rfl (fun hb => (zat Tryz.underlying9 rfl (by first | rfl | assumption))) (fun _ => ⟨rfl, trivial⟩) ?_
 refine mb2 _ rfl rfl (fun hb => (zag zck rfl)) (fun _ => trivial) ?_
 refine mb2 _ rfl rfl (fun hb => (zat Tryz.underlying9 rfl (by first | rfl | assumption))) (fun _ => ⟨rfl, trivial⟩) ?_
 refine mb2 _ rfl rfl (fun hb => zbQ) (fun _ => trivial) ?_
 refine zac (zbl (by first | exact id | (simp; done) | grind)) rfl rfl ?_
 refine yM ?_
 refine mb2 _ rfl rfl (fun hb => (zag zdM rfl)) (fun _ => trivial) ?_
 refine mb2 _ rfl rfl (fun hb => (zat Tryz.underlying9 rfl (by first | rfl | assumption))) (fun _ => ⟨rfl, trivial⟩) ?_
 refine mb2 _ rfl rfl (fun hb => (zag zdM rfl)) (fun _ => trivial) ?_
 refine mb2 _ rfl rfl (fun hb => (zat Tryz.underlying9 rfl (by first | rfl | assumption))) (fun _ => ⟨rfl, trivial⟩) ?_
 refine mb2 _ rfl rfl (fun hb => zbQ) (fun _ => trivial) ?_
 refine zac (zbl (by first | exact id | (simp; done) | grind)) rfl rfl ?_
 refine yM ?_
 refine mb2 _ rfl rfl (fun hb => (zag zes rfl)) (fun _ => trivial) ?_
 refine mb2 _ rfl rfl (fun hb => (zat Tryz.underlying3 rfl (by first | rfl | assumption))) (fun _ => ⟨rfl, trivial⟩) ?_
 refine mb2 _ rfl rfl (fun hb => (zag zes rfl)) (fun _ => trivial) ?_
 refine mb2 _ rfl rfl (fun hb => (zat Tryz.underlying3 rfl (by first | rfl | assumption))) (fun _ => ⟨rfl, trivial⟩) ?_
 refine mb2 _ rfl rfl (fun hb => zaF) (fun _ => trivial) ?_
 refine zac (zbl (by first | exact id | (simp; done) | grind)) rfl rfl ?_
 refine yM ?_
 refine mb2 _ rfl rfl (fun hb => (zag zcj rfl)) (fun _ => trivial) ?_
 refine mb2 _ rfl rfl (fun hb => (zat Tryz.underlying47 rfl (by first | rfl | assumption))) (fun _ => ⟨rfl, trivial⟩) ?_
 refine mb2 _ rfl rfl (fun hb => (zag zcj rfl)) (fun _ => trivial) ?_
 refine mb2 _ rfl rfl (fun hb => (zat Tryz.underlying47 rfl (by first | rfl | assumption))) (fun _ => ⟨rfl, trivial⟩) ?_
 refine mb2 _ rfl rfl (fun _ => zbd Tryz.func78 rfl rfl (hN) (by first | rfl | simp [AV.okInL, AV.okIn, zaZ]) rfl) (fun _ => trivial) ?_
 refine zac (zbl (by first | exact id | (simp; done) | grind)) rfl rfl ?_
 refine yA ?_
 refine zab ?_
 refine zaf ?_
 refine yT ?_ ?_
 ·exact rfl
 ·exact trivial
theorem pesd_d (l m : List PE) (hl : l.length ≤ 4611686018427387904) (hm : m.length ≤ 4611686018427387904) (okl : ∀ p ∈ l, p.OK ∧ p.nets.length ≤ 1048576) (okm : ∀ p ∈ m, p.OK ∧ p.nets.length ≤ 1048576) : Fn Tryz.prog 76 [.p (.sl l.length 5 (l.flatMap PE.pv)), .p (.sl m.length 5 (m.flatMap PE.pv)), .fn 85 []] (.p (.v (.bool (eqB l m)))) [] := by
 by_cases hlen : l.length = m.length
 rotate_left
 ·rw [zdB (fun e => hlen (by rw [e]))]
  generalize l.flatMap PE.pv = L
  generalize m.flatMap PE.pv = M
  generalize l.length = n at *
  generalize m.length = k at *
  refine zap Tryz.func76 rfl (Nat.le_of_ble_eq_true rfl) fun w0 A => ?_
  refine zaa ?_
  refine tx ?_
  refine yA ?_
  refine zab ?_
  refine zaa (zaa ?_)
  refine tx ?_
  refine yM ?_
  refine yP (zaC Tryz.underlying22) ?_
  refine yM ?_
  refine yP (zaC Tryz.underlying22) ?_
  refine zac (zaQ (c := true) (by simp; omega)) rfl rfl ?_
  refine zab ?_
  refine zae ?_
  refine zaD rfl ?_
  refine zaa ?_
  refine tx ?_
  refine yA ?_
  refine zab ?_
  refine zaf (zam ?_)
  refine yT ?_ ?_
  ·exact rfl
  ·exact trivial
 obtain ⟨E, hE⟩ : ∃ E, eqB l m = E := ⟨_, rfl⟩
 rw [hE]
 refine zap Tryz.func76 rfl (Nat.le_of_ble_eq_true rfl) fun w0 A => ?_
 refine zaa ?_
 refine tx ?_
 refine yA ?_
 refine zab ?_
 refine zaa (zaa ?_)
 refine tx ?_
 refine yM ?_
 refine yP (zaC Tryz.underlying22) ?_
 refine yM ?_
 refine yP (zaC Tryz.underlying22) ?_
 refine zac (zaQ (c := false) (by simp; omega)) rfl rfl ?_
 refine zab ?_
 refine zae ?_
 refine zan rfl ?_
 refine zad (zaa (zaa ?_))
 refine tx ?_
 refine yM ?_
 (first | refine zac (zaC Tryz.underlying22) rfl rfl ?_ | refine zac (zdI Tryz.underlying22) rfl rfl ?_)
 refine yM ?_
 refine zab ?_
 refine zaj ?_
 refine zaE (fun u st => ∃ i : Nat, u + i = l.length ∧ (∀ j, j < i → l[j]? = m[j]?) ∧ st = St.of [(1, .p (.sl m.length 5 (m.flatMap PE.pv))), (2, .fn 85 []), (15, .p (.sl l.length 5 (l.flatMap PE.pv))), (16, .p (.v (.int .i64 l.length))), (17, .p (.v (.int .i64 i)))] []) l.length ?_ ?_
 ·refine ⟨_, zaJ id _ _ ?_ ?_ rfl, 0, by omega, by omega, rfl⟩
  ·(repeat (first | exact trivial | (refine ⟨⟨(by first | rfl | (simp; done) | (simp; omega)), rfl⟩, ?_⟩)))
  ·exact trivial
 rintro u st ⟨i, hi, hf, rfl⟩
 refine zaa ?_
 refine tx ?_
 refine yP zaX ?_
 refine zab ?_
 refine zaa ?_
 refine zah _ rfl (fun h => ?_) (fun h => ?_)
 ·have hlt : i < l.length := by simp at h; omega
  clear h
  obtain ⟨x, hx⟩ : ∃ x, l[i]? = some x := ⟨l[i], List.getElem?_eq_getElem hlt⟩
  obtain ⟨y, hy⟩ : ∃ y, m[i]? = some y := ⟨m[i]'(by omega), List.getElem?_eq_getElem (by omega)⟩
  have hch := zaN (f := PE.pv) (k := 5) (fun _ => rfl) hx
  have hle := zaP (f := PE.pv) (k := 5) (fun _ => rfl) hlt
  have hch2 := zaN (f := PE.pv) (k := 5) (fun _ => rfl) hy
  have hle2 := zaP (f := PE.pv) (k := 5) (fun _ => rfl) (show i < m.length by omega)
  have hbad := zeo hx hy
  have hxy : x = y → l[i]? = m[i]? := fun e => by rw [hx, hy, e]
  have hxm := List.mem_of_getElem? hx
  have hym := List.mem_of_getElem? hy
  have hC := ped_d x y (okl x hxm).2 (okm y hym).2
  generalize l.flatMap PE.pv = L at *
  generalize m.flatMap PE.pv = M at *
  refine zad (zaa (zaj (zaa ?_)))
  refine tx ?_
  refine yM ?_
  refine zac (zao Tryz.underlying22 sz49 (by omega) (by omega) rfl) rfl rfl ?_
  refine zac (zaz Tryz.underlying49 rfl sz49 (by first | omega | (simp; done) | (simp; omega)) (hch)) rfl rfl ?_
  refine zal (zaU 8 zr49 rfl) rfl rfl ⟨rfl, trivial⟩ ?_
  refine yA ?_
  refine zal (zaA (Y := .agg x.cells) sz49 rfl rfl (Nat.eq_of_beq_eq_true rfl)) rfl rfl ⟨rfl, trivial⟩ ?_
  refine zab ?_
  refine zaa ?_
  refine tx ?_
  refine yM ?_
  refine yM ?_
  refine zac (zao Tryz.underlying22 sz49 (by omega) (by omega) rfl) rfl rfl ?_
  refine zac (zaz Tryz.underlying49 rfl sz49 (by first | omega | (simp; done) | (simp; omega)) (hch2)) rfl rfl ?_
  refine zal (zaU 9 zr49 rfl) rfl rfl ⟨rfl, trivial⟩ ?_
  refine zal (zaA (Y := .agg y.cells) sz49 rfl rfl (Nat.eq_of_beq_eq_true rfl)) rfl rfl ⟨rfl, trivial⟩ ?_
  refine zab ?_
  by_cases he : x = y
  ·rw [peB_T he] at hC
   refine zaa ?_
   refine tx ?_
   refine yP (zaq (r := .fn _ _)) ?_
   refine zal (zaL Tryz.underlying49 rfl sz49 (by first | exact Nat.le_of_ble_eq_true rfl | omega | (simp only [AV.cells, List.length_map]; omega)) (show _ = x.cells from rfl)) rfl rfl ⟨rfl, trivial⟩ ?_
   refine zal (zaL Tryz.underlying49 rfl sz49 (by first | exact Nat.le_of_ble_eq_true rfl | omega | (simp only [AV.cells, List.length_map]; omega)) (show _ = y.cells from rfl)) rfl rfl ⟨rfl, trivial⟩ ?_
   refine cS (fun n => 29 + 1000 * n) (hC) Tryz.func85 ?_
   refine yP za0 ?_
   refine zab ?_
   refine zae ?_
   refine zah _ rfl (fun h => ?_) (fun h => ?_)
   ·cases h
   refine zad (za3 (zae ?_))
   refine tx ?_
   refine zac (za4 (by first | exact IntWalk.i64_in _ (by omega) | rfl)) rfl rfl ?_
   refine yM ?_
   refine zab ?_
   refine zae ?_
   refine ⟨u - 1, by omega, _, zaJ id _ _ ?_ ?_ rfl, i + 1, by omega, fun j hj => ?_, rfl⟩
   ·(repeat (first | exact trivial | (refine ⟨⟨(by first | rfl | (simp; done) | (simp; omega)), rfl⟩, ?_⟩)))
   ·exact trivial
   ·by_cases e : j = i
    ·rw [e]; exact hxy he
    ·exact hf j (by omega)
  ·rw [zdB (hbad he)] at hE
   subst hE
   rw [peB_F he] at hC
   refine zaa ?_
   refine tx ?_
   refine yP (zaq (r := .fn _ _)) ?_
   refine zal (zaL Tryz.underlying49 rfl sz49 (by first | exact Nat.le_of_ble_eq_true rfl | omega | (simp only [AV.cells, List.length_map]; omega)) (show _ = x.cells from rfl)) rfl rfl ⟨rfl, trivial⟩ ?_
   refine zal (zaL Tryz.underlying49 rfl sz49 (by first | exact Nat.le_of_ble_eq_true rfl | omega | (simp only [AV.cells, List.length_map]; omega)) (show _ = y.cells from rfl)) rfl rfl ⟨rfl, trivial⟩ ?_
   refine cS (fun n => 29 + 1000 * n) (hC) Tryz.func85 ?_
   refine yP za0 ?_
   refine zab ?_
   refine zae ?_
   refine zah _ rfl (fun h => ?_) (fun h => ?_)
   ·refine zaa ?_
    refine tx ?_
    refine yA ?_
    refine zab ?_
    refine zaf (zaK (zam (zam (zaK (zam ?_)))))
    refine yT ?_ ?_
    ·exact rfl
    ·exact trivial
   ·cases h
 have hge : i = l.length := by simp at h; omega
 clear h
 subst hge
 rw [zfF (zep hlen hf)] at hE
 subst hE
 refine zaG (zaa ?_)
 refine tx ?_
 refine yA ?_
 refine zab ?_
 refine zaf ?_
 refine yT ?_ ?_
 ·exact rfl
 ·exact trivial
theorem zgU (c d : CF) (ok : c.OK) (od : d.OK) : Fn Tryz.prog 43 [.agg c.cells, .agg d.cells] (.p (.v (.bool (cfB c d)))) [] := by
 have hQ := pesd_d c.ps d.ps (by have := ok.len; omega) (by have := od.len; omega) ok.ps od.ps
 obtain ⟨k1, p1, l1'⟩ := c
 obtain ⟨k2, p2, l2'⟩ := d
 dsimp only at hQ
 show Fn Tryz.prog _ [.agg [.p (.v (.string k1)), .p (.v (.int .i64 p1)), .p (.sl l1'.length 5 (l1'.flatMap PE.pv))], .agg [.p (.v (.string k2)), .p (.v (.int .i64 p2)), .p (.sl l2'.length 5 (l2'.flatMap PE.pv))]] (.p (.v (.bool ((decide (k1 = k2) && (p1 == p2)) && eqB l1' l2')))) _
 clear ok od
 generalize eqB l1' l2' = bn at *
 generalize l1'.flatMap PE.pv = L1 at *
 generalize l2'.flatMap PE.pv = L2 at *
 generalize l1'.length = c1 at *
 generalize l2'.length = c2 at *
 refine zap Tryz.func43 rfl (Nat.le_of_ble_eq_true rfl) fun w0 A => ?_
 refine zaa ?_
 refine tx ?_
 refine zal (za2 (X := .agg _) 2 rfl) rfl rfl ⟨rfl, trivial⟩ ?_
 refine zal (za2 (X := .agg _) 3 rfl) rfl rfl ⟨rfl, trivial⟩ ?_
 refine yA ?_
 refine zab ?_
 refine zaa ?_
 refine tx ?_
 refine yF zbo ?_
 refine yL Tryz.underlying9 ?_
 refine yF zbo ?_
 refine yL Tryz.underlying9 ?_
 refine yP zbQ ?_
 refine yM ?_
 refine mb2 _ rfl rfl (fun hb => (zag zdP rfl)) (fun _ => trivial) ?_
 refine mb2 _ rfl rfl (fun hb => (zat Tryz.underlying3 rfl (by first | rfl | assumption))) (fun _ => ⟨rfl, trivial⟩) ?_
 refine mb2 _ rfl rfl (fun hb => (zag zdP rfl)) (fun _ => trivial) ?_
 refine mb2 _ rfl rfl (fun hb => (zat Tryz.underlying3 rfl (by first | rfl | assumption))) (fun _ => ⟨rfl, trivial⟩) ?_
 refine mb2 _ rfl rfl (fun hb => zaF) (fun _ => trivial) ?_
 refine zac (zbl (by first | exact id | (simp; done) | grind)) rfl rfl ?_
 refine yM ?_
 refine mb2 _ rfl rfl (fun hb => (zag zbO rfl)) (fun _ => trivial) ?_
 refine mb2 _ rfl rfl (fun hb => (zat Tryz.underlying22 rfl (by first | rfl | assumption))) (fun _ => ⟨rfl, trivial⟩) ?_
 refine mb2 _ rfl rfl (fun hb => (zag zbO rfl)) (fun _ => trivial) ?_
 refine mb2 _ rfl rfl (fun hb => (zat Tryz.underlying22 rfl (by first | rfl | assumption))) (fun _ => ⟨rfl, trivial⟩) ?_
 refine mb2 _ rfl rfl (fun _ => zbd Tryz.func76 rfl rfl (hQ) (by first | rfl | simp [AV.okInL, AV.okIn, zaZ]) rfl) (fun _ => trivial) ?_
 refine zac (zbl (by first | exact id | (simp; done) | grind)) rfl rfl ?_
 refine yA ?_
 refine zab ?_
 refine zaf ?_
 refine yT ?_ ?_
 ·exact rfl
 ·exact trivial
end Go.Proofs.YtgpleldhddpcgaaGreatDoor
