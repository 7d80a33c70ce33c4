/- daemon.Same, daemon.Copy, over data. -/
import Derived.Test.YtgpleldhddpcgaaGreatDoorSDm1
import Derived.Test.YtgpleldhddpcgaaGreatDoorSTab2
import Derived.Test.YtgpleldhddpcgaaGreatDoorSTc5
import Derived.Test.YtgpleldhddpcgaaGreatDoorSTw4
namespace Go.Proofs.YtgpleldhddpcgaaGreatDoor
open Go.RowKit Go.Sort
set_option linter.unusedVariables false
set_option linter.unusedSimpArgs false
set_option maxRecDepth 100000
theorem daemonSame_d (d o : DM) (od : d.OK) (oo : o.OK) : Fn Tryz.prog 17 [.agg d.cells, .agg o.cells] (.p (.v (.bool (dmB d o)))) [] := by
 have hC := zgU d.c o.c od.c oo.c
 have hT := zgp d.tree o.tree (by have := od.treeN; omega) (by have := oo.treeN; omega)
 have hS := stsd_d d.ps o.ps (by have := od.psN; omega) (by have := oo.psN; omega) (fun s hs => (od.ps s hs).2) (fun s hs => (oo.ps s hs).2)
 have hK := zgU d.sg.c o.sg.c od.sg.c oo.sg.c
 have hR := eqSets_d d.sg.rest o.sg.rest (by have := od.sg.len; omega) (by have := oo.sg.len; omega)
 have hB : dmB d o = ((((((((((cfB d.c o.c && eqB d.tree o.tree) && (d.gen == o.gen)) && (d.now == o.now)) && (d.last == o.last)) && cfB d.sg.c o.sg.c) && eqB d.sg.rest o.sg.rest) && (d.sg.lv == o.sg.lv)) && decide (d.sg.at_ = o.sg.at_)) && (d.sg.err == o.sg.err)) && eqB d.ps o.ps) := by
  unfold dmB sgB
  generalize cfB d.c o.c = b1
  generalize eqB d.tree o.tree = b2
  generalize (d.gen == o.gen) = b3
  generalize (d.now == o.now) = b4
  generalize (d.last == o.last) = b5
  generalize cfB d.sg.c o.sg.c = b6
  generalize eqB d.sg.rest o.sg.rest = b7
  generalize (d.sg.lv == o.sg.lv) = b8
  generalize decide (d.sg.at_ = o.sg.at_) = b9
  generalize (d.sg.err == o.sg.err) = b10
  generalize eqB d.ps o.ps = b11
  rw [Bool.eq_iff_iff]
  simp only [Bool.and_eq_true]
  constructor
  ·rintro ⟨⟨⟨⟨⟨⟨h1, h2⟩, h11⟩, ⟨⟨⟨h8, h7⟩, h6⟩, h9⟩, h10⟩, h3⟩, h4⟩, h5⟩
   exact ⟨⟨⟨⟨⟨⟨⟨⟨⟨⟨h1, h2⟩, h3⟩, h4⟩, h5⟩, h6⟩, h7⟩, h8⟩, h9⟩, h10⟩, h11⟩
  ·rintro ⟨⟨⟨⟨⟨⟨⟨⟨⟨⟨h1, h2⟩, h3⟩, h4⟩, h5⟩, h6⟩, h7⟩, h8⟩, h9⟩, h10⟩, h11⟩
   exact ⟨⟨⟨⟨⟨⟨h1, h2⟩, h11⟩, ⟨⟨⟨h8, h7⟩, h6⟩, h9⟩, h10⟩, h3⟩, h4⟩, h5⟩
 rw [hB]
 clear hB
 clear od oo
 obtain ⟨⟨k1, p1, q1⟩, t1, s1, ⟨v1, r1, ⟨sk1, sp1, sq1⟩, a1, e1⟩, g1, w1, l1'⟩ := d
 obtain ⟨⟨k2, p2, q2⟩, t2, s2, ⟨v2, r2, ⟨sk2, sp2, sq2⟩, a2, e2⟩, g2, w2, l2'⟩ := o
 dsimp only at hC hT hS hK hR ⊢
 change Fn Tryz.prog _ [.agg (cfV k1 p1 (CF.row ⟨k1, p1, q1⟩)), .agg (cfV k2 p2 (CF.row ⟨k2, p2, q2⟩))] _ _ at hC
 change Fn Tryz.prog _ [.agg (cfV sk1 sp1 (CF.row ⟨sk1, sp1, sq1⟩)), .agg (cfV sk2 sp2 (CF.row ⟨sk2, sp2, sq2⟩))] _ _ at hK
 change Fn Tryz.prog _ [.p (stsV s1), .p (stsV s2), _] _ _ at hS
 change Fn Tryz.prog _ [.p (ndsV t1), .p (ndsV t2)] _ _ at hT
 change Fn Tryz.prog _ [.p (sesV r1), .p (sesV r2)] _ _ at hR
 show Fn Tryz.prog _ [.agg (dmC k1 p1 (CF.row ⟨k1, p1, q1⟩) (ndsV t1) (stsV s1) v1 (sesV r1) sk1 sp1 (CF.row ⟨sk1, sp1, sq1⟩) a1 e1 g1 w1 l1'), .agg (dmC k2 p2 (CF.row ⟨k2, p2, q2⟩) (ndsV t2) (stsV s2) v2 (sesV r2) sk2 sp2 (CF.row ⟨sk2, sp2, sq2⟩) a2 e2 g2 w2 l2')] _ _
 generalize cfB ⟨k1, p1, q1⟩ ⟨k2, p2, q2⟩ = cb at *
 generalize cfB ⟨sk1, sp1, sq1⟩ ⟨sk2, sp2, sq2⟩ = kb at *
 generalize CF.row ⟨k1, p1, q1⟩ = Q1 at *
 generalize CF.row ⟨k2, p2, q2⟩ = Q2 at *
 generalize CF.row ⟨sk1, sp1, sq1⟩ = SQ1 at *
 generalize CF.row ⟨sk2, sp2, sq2⟩ = SQ2 at *
 generalize eqB t1 t2 = tb at *
 generalize ndsV t1 = T1 at *
 generalize ndsV t2 = T2 at *
 generalize eqB s1 s2 = pb at *
 generalize stsV s1 = S1 at *
 generalize stsV s2 = S2 at *
 generalize eqB r1 r2 = rb at *
 generalize sesV r1 = R1 at *
 generalize sesV r2 = R2 at *
 refine zap Tryz.func17 rfl (Nat.le_of_ble_eq_true rfl) fun w0 A => ?_
 refine zaa ?_
 refine tx ?_
 refine zal (za2 (X := .agg _) 2 rfl) rfl rfl ⟨rfl, trivial⟩ ?_
 refine zal (za2 (X := .agg _) 3 rfl) rfl rfl ⟨rfl, trivial⟩ ?_
 refine yA ?_
 refine zab ?_
 refine zaa ?_
 refine tx ?_
 refine yF zbK ?_
 refine lN Tryz.underlying24 rfl sz24 rfl rfl ⟨rfl, trivial⟩ ?_
 refine yF zbK ?_
 refine lN Tryz.underlying24 rfl sz24 rfl rfl ⟨rfl, trivial⟩ ?_
 refine cS (fun n => 9 + 1000 * n) (hC) Tryz.func43 ?_
 refine yM ?_
 refine mb2 _ rfl rfl (fun hb => (zag zdr rfl)) (fun _ => trivial) ?_
 refine mb2 _ rfl rfl (fun hb => (zat Tryz.underlying25 rfl (by first | rfl | assumption))) (fun _ => ⟨rfl, trivial⟩) ?_
 refine mb2 _ rfl rfl (fun hb => (zag zdr rfl)) (fun _ => trivial) ?_
 refine mb2 _ rfl rfl (fun hb => (zat Tryz.underlying25 rfl (by first | rfl | assumption))) (fun _ => ⟨rfl, trivial⟩) ?_
 refine mb2 _ rfl rfl (fun _ => zbd Tryz.func24 rfl rfl (hT) (by first | rfl | simp [AV.okInL, AV.okIn, zaZ]) rfl) (fun _ => trivial) ?_
 refine zac (zbl (by first | exact id | (simp; done) | grind)) rfl rfl ?_
 refine yM ?_
 refine mb2 _ rfl rfl (fun hb => (zag zfA rfl)) (fun _ => trivial) ?_
 refine mb2 _ rfl rfl (fun hb => (zat Tryz.underlying3 rfl (by first | rfl | assumption))) (fun _ => ⟨rfl, trivial⟩) ?_
 refine mb2 _ rfl rfl (fun hb => (zag zfA rfl)) (fun _ => trivial) ?_
 refine mb2 _ rfl rfl (fun hb => (zat Tryz.underlying3 rfl (by first | rfl | assumption))) (fun _ => ⟨rfl, trivial⟩) ?_
 refine mb2 _ rfl rfl (fun hb => zaF) (fun _ => trivial) ?_
 refine zac (zbl (by first | exact id | (simp; done) | grind)) rfl rfl ?_
 refine yM ?_
 refine mb2 _ rfl rfl (fun hb => (zag zc6 rfl)) (fun _ => trivial) ?_
 refine mb2 _ rfl rfl (fun hb => (zat Tryz.underlying3 rfl (by first | rfl | assumption))) (fun _ => ⟨rfl, trivial⟩) ?_
 refine mb2 _ rfl rfl (fun hb => (zag zc6 rfl)) (fun _ => trivial) ?_
 refine mb2 _ rfl rfl (fun hb => (zat Tryz.underlying3 rfl (by first | rfl | assumption))) (fun _ => ⟨rfl, trivial⟩) ?_
 refine mb2 _ rfl rfl (fun hb => zaF) (fun _ => trivial) ?_
 refine zac (zbl (by first | exact id | (simp; done) | grind)) rfl rfl ?_
 refine yM ?_
 refine mb2 _ rfl rfl (fun hb => (zag zfz rfl)) (fun _ => trivial) ?_
 refine mb2 _ rfl rfl (fun hb => (zat Tryz.underlying3 rfl (by first | rfl | assumption))) (fun _ => ⟨rfl, trivial⟩) ?_
 refine mb2 _ rfl rfl (fun hb => (zag zfz rfl)) (fun _ => trivial) ?_
 refine mb2 _ rfl rfl (fun hb => (zat Tryz.underlying3 rfl (by first | rfl | assumption))) (fun _ => ⟨rfl, trivial⟩) ?_
 refine mb2 _ rfl rfl (fun hb => zaF) (fun _ => trivial) ?_
 refine zac (zbl (by first | exact id | (simp; done) | grind)) rfl rfl ?_
 refine yM ?_
 refine mb2 _ rfl rfl (fun hb => (zag zcC rfl)) (fun _ => trivial) ?_
 refine mb2 _ rfl rfl (fun hb => (zag zcD rfl)) (fun _ => trivial) ?_
 refine mb2 _ rfl rfl (fun hb => (zaL Tryz.underlying24 rfl sz24 (by first | exact Nat.le_of_ble_eq_true rfl | omega | (simp only [AV.cells, List.length_map]; omega)) (by first | exact zce (by first | assumption | exact Nat.eq_of_beq_eq_true rfl | (simp only [AV.cells, List.length_map]; first | assumption | omega)) | (simp only [List.take_succ_cons, List.take_zero, List.drop_succ_cons, List.drop_zero]; rfl) | rfl))) (fun _ => ⟨rfl, trivial⟩) ?_
 refine mb2 _ rfl rfl (fun hb => (zag zcC rfl)) (fun _ => trivial) ?_
 refine mb2 _ rfl rfl (fun hb => (zag zcD rfl)) (fun _ => trivial) ?_
 refine mb2 _ rfl rfl (fun hb => (zaL Tryz.underlying24 rfl sz24 (by first | exact Nat.le_of_ble_eq_true rfl | omega | (simp only [AV.cells, List.length_map]; omega)) (by first | exact zce (by first | assumption | exact Nat.eq_of_beq_eq_true rfl | (simp only [AV.cells, List.length_map]; first | assumption | omega)) | (simp only [List.take_succ_cons, List.take_zero, List.drop_succ_cons, List.drop_zero]; rfl) | rfl))) (fun _ => ⟨rfl, trivial⟩) ?_
 refine mb2 _ rfl rfl (fun _ => zbd Tryz.func43 rfl rfl (hK) (by first | rfl | simp [AV.okInL, AV.okIn, zaZ]) rfl) (fun _ => trivial) ?_
 refine zac (zbl (by first | exact id | (simp; done) | grind)) rfl rfl ?_
 refine yM ?_
 refine mb2 _ rfl rfl (fun hb => (zag zcC rfl)) (fun _ => trivial) ?_
 refine mb2 _ rfl rfl (fun hb => (zag zc7 rfl)) (fun _ => trivial) ?_
 refine mb2 _ rfl rfl (fun hb => (zat Tryz.underlying33 rfl (by first | rfl | assumption))) (fun _ => ⟨rfl, trivial⟩) ?_
 refine mb2 _ rfl rfl (fun hb => (zag zcC rfl)) (fun _ => trivial) ?_
 refine mb2 _ rfl rfl (fun hb => (zag zc7 rfl)) (fun _ => trivial) ?_
 refine mb2 _ rfl rfl (fun hb => (zat Tryz.underlying33 rfl (by first | rfl | assumption))) (fun _ => ⟨rfl, trivial⟩) ?_
 refine mb2 _ rfl rfl (fun _ => zbd Tryz.func44 rfl rfl (hR) (by first | rfl | simp [AV.okInL, AV.okIn, zaZ]) rfl) (fun _ => trivial) ?_
 refine zac (zbl (by first | exact id | (simp; done) | grind)) rfl rfl ?_
 refine yM ?_
 refine mb2 _ rfl rfl (fun hb => (zag zcC rfl)) (fun _ => trivial) ?_
 refine mb2 _ rfl rfl (fun hb => (zag zgS rfl)) (fun _ => trivial) ?_
 refine mb2 _ rfl rfl (fun hb => (zat Tryz.underlying4 rfl (by first | rfl | assumption))) (fun _ => ⟨rfl, trivial⟩) ?_
 refine mb2 _ rfl rfl (fun hb => (zag zcC rfl)) (fun _ => trivial) ?_
 refine mb2 _ rfl rfl (fun hb => (zag zgS rfl)) (fun _ => trivial) ?_
 refine mb2 _ rfl rfl (fun hb => (zat Tryz.underlying4 rfl (by first | rfl | assumption))) (fun _ => ⟨rfl, trivial⟩) ?_
 refine mb2 _ rfl rfl (fun hb => (a_beql Tryz.underlying4)) (fun _ => trivial) ?_
 refine zac (zbl (by first | exact id | (simp; done) | grind)) rfl rfl ?_
 refine yM ?_
 refine mb2 _ rfl rfl (fun hb => (zag zcC rfl)) (fun _ => trivial) ?_
 refine mb2 _ rfl rfl (fun hb => (zag zdO rfl)) (fun _ => trivial) ?_
 refine mb2 _ rfl rfl (fun hb => (zat Tryz.underlying9 rfl (by first | rfl | assumption))) (fun _ => ⟨rfl, trivial⟩) ?_
 refine mb2 _ rfl rfl (fun hb => (zag zcC rfl)) (fun _ => trivial) ?_
 refine mb2 _ rfl rfl (fun hb => (zag zdO rfl)) (fun _ => trivial) ?_
 refine mb2 _ rfl rfl (fun hb => (zat Tryz.underlying9 rfl (by first | rfl | assumption))) (fun _ => ⟨rfl, trivial⟩) ?_
 refine mb2 _ rfl rfl (fun hb => zbQ) (fun _ => trivial) ?_
 refine zac (zbl (by first | exact id | (simp; done) | grind)) rfl rfl ?_
 refine yM ?_
 refine mb2 _ rfl rfl (fun hb => (zag zcC rfl)) (fun _ => trivial) ?_
 refine mb2 _ rfl rfl (fun hb => (zag zdN rfl)) (fun _ => trivial) ?_
 refine mb2 _ rfl rfl (fun hb => (zat Tryz.underlying26 rfl (by first | rfl | assumption))) (fun _ => ⟨rfl, trivial⟩) ?_
 refine mb2 _ rfl rfl (fun hb => (zag zcC rfl)) (fun _ => trivial) ?_
 refine mb2 _ rfl rfl (fun hb => (zag zdN rfl)) (fun _ => trivial) ?_
 refine mb2 _ rfl rfl (fun hb => (zat Tryz.underlying26 rfl (by first | rfl | assumption))) (fun _ => ⟨rfl, trivial⟩) ?_
 refine mb2 _ rfl rfl (fun hb => zaF) (fun _ => trivial) ?_
 refine zac (zbl (by first | exact id | (simp; done) | grind)) rfl rfl ?_
 refine yM ?_
 refine mb2 _ rfl rfl (fun hb => (zag zct rfl)) (fun _ => trivial) ?_
 refine mb2 _ rfl rfl (fun hb => (zat Tryz.underlying40 rfl (by first | rfl | assumption))) (fun _ => ⟨rfl, trivial⟩) ?_
 refine mb2 _ rfl rfl (fun hb => (zag zct rfl)) (fun _ => trivial) ?_
 refine mb2 _ rfl rfl (fun hb => (zat Tryz.underlying40 rfl (by first | rfl | assumption))) (fun _ => ⟨rfl, trivial⟩) ?_
 refine mb2 _ rfl rfl (fun _ => zbd Tryz.func45 rfl rfl (hS) (by first | rfl | simp [AV.okInL, AV.okIn, zaZ]) rfl) (fun _ => trivial) ?_
 refine zac (zbl (by first | exact id | (simp; done) | grind)) rfl rfl ?_
 refine yA ?_
 refine zab ?_
 refine zaf ?_
 refine yT ?_ ?_
 ·exact rfl
 ·exact trivial
theorem daemonCopy_s (d : DM) (ok : d.OK) : Fn Tryz.prog 16 [.agg d.cells] (.agg [.p (.v (.string d.c.key)), .p (.v (.int .i64 d.c.port)), .row 0, .row 1, .row 2, .p (.v (.bool d.sg.lv)), .row 3, .p (.v (.string d.sg.c.key)), .p (.v (.int .i64 d.sg.c.port)), .row 4, .p (.v (.string d.sg.at_)), .p (.v (.int .i64 d.sg.err)), .p (.v (.int .i64 d.gen)), .p (.v (.int .i64 d.now)), .p (.v (.int .i64 d.last))])
  [(0, .row 49 5 d.c.ps.length (d.c.ps.flatMap PE.pv)), (1, .row 55 4 d.tree.length (nds d.tree)), (2, .row 81 41 d.ps.length (d.ps.flatMap ST.pv)), (3, .row 86 5 d.sg.rest.length (d.sg.rest.flatMap SE.pv)), (4, .row 49 5 d.sg.c.ps.length (d.sg.c.ps.flatMap PE.pv))] := by
 have hC := cfCopy_s d.c ok.c
 have hT := cloneN_s d.tree.length (nds d.tree) (zdY _) (by have := ok.treeN; omega)
 have hS := tcopy_s d.ps (fun s hs => (ok.ps s hs).1) ok.psN
 have hG := sgCopy_s d.sg ok.sg
 clear ok
 obtain ⟨⟨k1, p1, q1⟩, t1, s1, ⟨v1, r1, ⟨sk1, sp1, sq1⟩, a1, e1⟩, g1, w1, l1'⟩ := d
 dsimp only at hC hT hS hG ⊢
 change Fn Tryz.prog _ [.agg [.p (.v (.string k1)), .p (.v (.int .i64 p1)), .p (.sl q1.length 5 (q1.flatMap PE.pv))]] _ _ at hC
 change Fn Tryz.prog _ [.agg (sgV v1 (.sl r1.length 5 (r1.flatMap SE.pv)) sk1 sp1 (.sl sq1.length 5 (sq1.flatMap PE.pv)) a1 e1)] _ _ at hG
 show Fn Tryz.prog _ [.agg (dmC k1 p1 (.sl q1.length 5 (q1.flatMap PE.pv)) (.sl t1.length 4 (nds t1)) (.sl s1.length 41 (s1.flatMap ST.pv)) v1 (.sl r1.length 5 (r1.flatMap SE.pv)) sk1 sp1 (.sl sq1.length 5 (sq1.flatMap PE.pv)) a1 e1 g1 w1 l1')] _ _
 generalize q1.flatMap PE.pv = Q at *
 generalize q1.length = qn at *
 generalize nds t1 = T at *
 generalize t1.length = tn at *
 generalize s1.flatMap ST.pv = S at *
 generalize s1.length = sn at *
 generalize r1.flatMap SE.pv = R at *
 generalize r1.length = rn at *
 generalize sq1.flatMap PE.pv = SQ at *
 generalize sq1.length = sqn at *
 refine zap Tryz.func16 rfl (Nat.le_of_ble_eq_true rfl) fun w0 A => ?_
 refine zaa ?_
 refine tx ?_
 refine zal (za2 (X := .agg _) 1 rfl) rfl rfl ⟨rfl, trivial⟩ ?_
 refine zal (zaU 2 zr42 rfl) rfl rfl ⟨rfl, trivial⟩ ?_
 refine zab ?_
 refine zaa ?_
 refine zav 4 (by kernel_rfl) ?_
 refine yF zbK ?_
 refine lN Tryz.underlying24 rfl sz24 rfl rfl ⟨rfl, trivial⟩ ?_
 refine cS (fun _ => 105) (hC) Tryz.func30 ?_
 refine yF zdr ?_
 refine yL Tryz.underlying25 ?_
 refine cS (fun _ => 108) (hT) Tryz.func40 ?_
 refine yF zct ?_
 refine yL Tryz.underlying40 ?_
 refine cS (fun _ => 111) (hS) Tryz.func41 ?_
 refine yF zcC ?_
 refine lN Tryz.underlying35 rfl sz35 rfl rfl ⟨rfl, trivial⟩ ?_
 refine cS (fun o => 114 + o) (hG) Tryz.func42 ?_
 refine yF zbK ?_
 refine zal (zbp (Y := .agg _) sz24 rfl (by first | exact Nat.eq_of_beq_eq_true rfl | (simp only [AV.cells, List.length_map]; first | assumption | omega)) (by first | exact Nat.le_of_ble_eq_true rfl | omega | (simp only [AV.cells, List.length_map]; omega)) (by first | (simp only [setR, AV.cells, List.take_succ_cons, List.take_zero, List.drop_succ_cons, List.drop_zero, List.drop_nil, List.take_nil, List.nil_append, List.cons_append, List.append_nil, List.length_cons, List.length_nil, Nat.reduceAdd, Nat.zero_add, Nat.add_zero]; rfl) | rfl)) rfl rfl ⟨rfl, trivial⟩ ?_
 refine yF zdr ?_
 refine zal (zbp (Y := .row _) sz25 rfl (by first | exact Nat.eq_of_beq_eq_true rfl | (simp only [AV.cells, List.length_map]; first | assumption | omega)) (by first | exact Nat.le_of_ble_eq_true rfl | omega | (simp only [AV.cells, List.length_map]; omega)) (by first | (simp only [setR, AV.cells, List.take_succ_cons, List.take_zero, List.drop_succ_cons, List.drop_zero, List.drop_nil, List.take_nil, List.nil_append, List.cons_append, List.append_nil, List.length_cons, List.length_nil, Nat.reduceAdd, Nat.zero_add, Nat.add_zero]; rfl) | rfl)) rfl rfl ⟨rfl, trivial⟩ ?_
 refine yF zct ?_
 refine zal (zbp (Y := .row _) sz40 rfl (by first | exact Nat.eq_of_beq_eq_true rfl | (simp only [AV.cells, List.length_map]; first | assumption | omega)) (by first | exact Nat.le_of_ble_eq_true rfl | omega | (simp only [AV.cells, List.length_map]; omega)) (by first | (simp only [setR, AV.cells, List.take_succ_cons, List.take_zero, List.drop_succ_cons, List.drop_zero, List.drop_nil, List.take_nil, List.nil_append, List.cons_append, List.append_nil, List.length_cons, List.length_nil, Nat.reduceAdd, Nat.zero_add, Nat.add_zero]; rfl) | rfl)) rfl rfl ⟨rfl, trivial⟩ ?_
 refine yF zcC ?_
 refine zal (zbp (Y := .agg _) sz35 rfl (by first | exact Nat.eq_of_beq_eq_true rfl | (simp only [AV.cells, List.length_map]; first | assumption | omega)) (by first | exact Nat.le_of_ble_eq_true rfl | omega | (simp only [AV.cells, List.length_map]; omega)) (by first | (simp only [setR, AV.cells, List.take_succ_cons, List.take_zero, List.drop_succ_cons, List.drop_zero, List.drop_nil, List.take_nil, List.nil_append, List.cons_append, List.append_nil, List.length_cons, List.length_nil, Nat.reduceAdd, Nat.zero_add, Nat.add_zero]; rfl) | rfl)) rfl rfl ⟨rfl, trivial⟩ ?_
 refine zab ⟨by kernel_rfl, ?_⟩
 refine zaa ?_
 refine tx ?_
 refine lN Tryz.underlying42 rfl sz42 rfl rfl ⟨rfl, trivial⟩ ?_
 refine zal (zaA (Y := .agg _) sz42 rfl (by first | exact Nat.eq_of_beq_eq_true rfl | (simp only [AV.cells, List.length_map]; first | assumption | omega)) (Nat.eq_of_beq_eq_true rfl)) rfl rfl ⟨rfl, trivial⟩ ?_
 refine zab ?_
 refine zaf ?_
 refine fT (fun o => bif Nat.beq o 0 then 105 else bif Nat.beq o 1 then 108 else bif Nat.beq o 2 then 111 else bif Nat.beq o 3 then 114 else 115) (.cellN _ _ _ _ _ _ _ _ _ rfl rfl Tryz.underlying42 rfl sz42 (by first | assumption | kernel_rfl) .nil) ?_ ?_
 ·exact rfl
 ·exact ⟨⟨rfl, rfl⟩, ⟨rfl, rfl⟩, ⟨rfl, rfl⟩, ⟨rfl, rfl⟩, ⟨rfl, rfl⟩, trivial⟩
end Go.Proofs.YtgpleldhddpcgaaGreatDoor
