/- The law DaemonChecks, over data. -/
import Derived.Test.YtgpleldhddpcgaaGreatDoorSDm2
import Derived.Test.YtgpleldhddpcgaaGreatDoorSDm5
namespace Go.Proofs.YtgpleldhddpcgaaGreatDoor
open Go.RowKit Go.Sort
set_option linter.unusedVariables false
set_option linter.unusedSimpArgs false
set_option maxRecDepth 100000
theorem law_DaemonChecks (x0 : List PV) (ty0 : Ty Tryz.prog 10 42 x0) (hb0 : PV.bdL 1048576 x0) (x1 : List PV) (ty1 : Ty Tryz.prog 10 42 x1) (hb1 : PV.bdL 1048576 x1) :
  Fn Tryz.prog 6 [argAV true x0, argAV true x1] (.p (.v (.bool true))) [] := by
 obtain ⟨d, od, rfl⟩ := DM.of_ty ty0 hb0
 obtain ⟨o, oo, rfl⟩ := DM.of_ty ty1 hb1
 have p1 := dmCheck_s d od
 have p2 := daemonCopy_s d od
 have p3 := daemonSame_d d o od oo
 have q1 := refDm_s d od
 have s1 := zfs d d od od
 have s2 := zfs d o od oo
 rw [dmB_self] at s1
 generalize dmE d = e at *
 generalize dmB d o = b at *
 clear od oo
 obtain ⟨⟨k1, p1', q1'⟩, t1, z1, ⟨v1, r1, ⟨sk1, sp1, sq1⟩, a1, e1⟩, g1, w1, n1⟩ := d
 obtain ⟨⟨k2, p2', q2'⟩, t2, z2, ⟨v2, r2, ⟨sk2, sp2, sq2⟩, a2, e2⟩, g2, w2, n2⟩ := o
 dsimp only at p2
 change Fn Tryz.prog _ [.agg (dmC k1 p1' (.sl q1'.length 5 (q1'.flatMap PE.pv)) (.sl t1.length 4 (nds t1)) (.sl z1.length 41 (z1.flatMap ST.pv)) v1 (.sl r1.length 5 (r1.flatMap SE.pv)) sk1 sp1 (.sl sq1.length 5 (sq1.flatMap PE.pv)) a1 e1 g1 w1 n1)] _ _ at p1
 change Fn Tryz.prog _ [.agg (dmC k1 p1' (.sl q1'.length 5 (q1'.flatMap PE.pv)) (.sl t1.length 4 (nds t1)) (.sl z1.length 41 (z1.flatMap ST.pv)) v1 (.sl r1.length 5 (r1.flatMap SE.pv)) sk1 sp1 (.sl sq1.length 5 (sq1.flatMap PE.pv)) a1 e1 g1 w1 n1)] _ _ at p2
 change Fn Tryz.prog _ [.agg (dmC k1 p1' (.sl q1'.length 5 (q1'.flatMap PE.pv)) (.sl t1.length 4 (nds t1)) (.sl z1.length 41 (z1.flatMap ST.pv)) v1 (.sl r1.length 5 (r1.flatMap SE.pv)) sk1 sp1 (.sl sq1.length 5 (sq1.flatMap PE.pv)) a1 e1 g1 w1 n1)] _ _ at q1
 change Fn Tryz.prog _ [.agg (dmC k1 p1' (.sl q1'.length 5 (q1'.flatMap PE.pv)) (.sl t1.length 4 (nds t1)) (.sl z1.length 41 (z1.flatMap ST.pv)) v1 (.sl r1.length 5 (r1.flatMap SE.pv)) sk1 sp1 (.sl sq1.length 5 (sq1.flatMap PE.pv)) a1 e1 g1 w1 n1), .agg (dmC k2 p2' (CF.row ⟨k2, p2', q2'⟩) (ndsV t2) (stsV z2) v2 (sesV r2) sk2 sp2 (CF.row ⟨sk2, sp2, sq2⟩) a2 e2 g2 w2 n2)] _ _ at p3
 change Fn Tryz.prog _ [.agg (dmC k1 p1' (.sl q1'.length 5 (q1'.flatMap PE.pv)) (.sl t1.length 4 (nds t1)) (.sl z1.length 41 (z1.flatMap ST.pv)) v1 (.sl r1.length 5 (r1.flatMap SE.pv)) sk1 sp1 (.sl sq1.length 5 (sq1.flatMap PE.pv)) a1 e1 g1 w1 n1), .agg (dmC k1 p1' (.sl q1'.length 5 (q1'.flatMap PE.pv)) (.sl t1.length 4 (nds t1)) (.sl z1.length 41 (z1.flatMap ST.pv)) v1 (.sl r1.length 5 (r1.flatMap SE.pv)) sk1 sp1 (.sl sq1.length 5 (sq1.flatMap PE.pv)) a1 e1 g1 w1 n1)] _ _ at s1
 change Fn Tryz.prog _ [.agg (dmC k1 p1' (.sl q1'.length 5 (q1'.flatMap PE.pv)) (.sl t1.length 4 (nds t1)) (.sl z1.length 41 (z1.flatMap ST.pv)) v1 (.sl r1.length 5 (r1.flatMap SE.pv)) sk1 sp1 (.sl sq1.length 5 (sq1.flatMap PE.pv)) a1 e1 g1 w1 n1), .agg (dmC k2 p2' (CF.row ⟨k2, p2', q2'⟩) (ndsV t2) (stsV z2) v2 (sesV r2) sk2 sp2 (CF.row ⟨sk2, sp2, sq2⟩) a2 e2 g2 w2 n2)] _ _ at s2
 show Fn Tryz.prog _ [.agg (dmC k1 p1' (.sl q1'.length 5 (q1'.flatMap PE.pv)) (.sl t1.length 4 (nds t1)) (.sl z1.length 41 (z1.flatMap ST.pv)) v1 (.sl r1.length 5 (r1.flatMap SE.pv)) sk1 sp1 (.sl sq1.length 5 (sq1.flatMap PE.pv)) a1 e1 g1 w1 n1), .agg (dmC k2 p2' (CF.row ⟨k2, p2', q2'⟩) (ndsV t2) (stsV z2) v2 (sesV r2) sk2 sp2 (CF.row ⟨sk2, sp2, sq2⟩) a2 e2 g2 w2 n2)] _ _
 generalize CF.row ⟨k2, p2', q2'⟩ = Q2 at *
 generalize CF.row ⟨sk2, sp2, sq2⟩ = SQ2 at *
 generalize ndsV t2 = T2 at *
 generalize stsV z2 = Z2 at *
 generalize sesV r2 = R2 at *
 generalize q1'.flatMap PE.pv = Q at *
 generalize q1'.length = qn at *
 generalize nds t1 = T at *
 generalize t1.length = tn at *
 generalize z1.flatMap ST.pv = Z at *
 generalize z1.length = zn at *
 generalize r1.flatMap SE.pv = R at *
 generalize r1.length = rn at *
 generalize sq1.flatMap PE.pv = SQ at *
 generalize sq1.length = sqn at *
 refine zap Tryz.func6 rfl (Nat.le_of_ble_eq_true rfl) fun w0 A => ?_
 refine zaa ?_
 refine tx ?_
 refine zal (za2 (X := .agg _) 2 rfl) rfl rfl ⟨rfl, trivial⟩ ?_
 refine zal (za2 (X := .agg _) 3 rfl) rfl rfl ⟨rfl, trivial⟩ ?_
 refine yA ?_
 refine zab ?_
 refine zaa ?_
 refine tx ?_
 refine lN Tryz.underlying42 rfl sz42 rfl rfl ⟨rfl, trivial⟩ ?_
 refine cS (fun n => 10 + 1000 * n) (p1) Tryz.func15 ?_
 refine yA ?_
 refine zab ?_
 refine zaa ?_
 refine tx ?_
 refine lN Tryz.underlying42 rfl sz42 rfl rfl ⟨rfl, trivial⟩ ?_
 refine cS (fun n => 12 + 1000 * n) (p2) Tryz.func16 ?_
 refine zal (zaU 6 zr42 rfl) rfl rfl ⟨rfl, trivial⟩ ?_
 refine zal (zaA (Y := .agg _) sz42 rfl (by first | exact Nat.eq_of_beq_eq_true rfl | (simp only [AV.cells, List.length_map]; first | assumption | omega)) (Nat.eq_of_beq_eq_true rfl)) rfl rfl ⟨rfl, trivial⟩ ?_
 refine zab ?_
 refine zaa ?_
 refine tx ?_
 refine lN Tryz.underlying42 rfl sz42 rfl rfl ⟨rfl, trivial⟩ ?_
 refine lN Tryz.underlying42 rfl sz42 rfl rfl ⟨rfl, trivial⟩ ?_
 refine cS (fun n => 15 + 1000 * n) (p3) Tryz.func17 ?_
 refine yA ?_
 refine zab ?_
 refine zaa ?_
 refine tx ?_
 refine lN Tryz.underlying42 rfl sz42 rfl rfl ⟨rfl, trivial⟩ ?_
 refine cS (fun n => 17 + 1000 * n) (q1) Tryz.func18 ?_
 refine yA ?_
 refine zab ?_
 refine zaa ?_
 refine tx ?_
 refine yM ?_
 refine yM ?_
 refine yP zb6 ?_
 refine yM ?_
 refine lN Tryz.underlying42 rfl sz42 rfl rfl ⟨rfl, trivial⟩ ?_
 refine lN Tryz.underlying42 rfl sz42 rfl rfl ⟨rfl, trivial⟩ ?_
 refine yV (fun n => 24 + 1000 * n) (s1) Tryz.func19 ?_
 refine yP zak ?_
 refine yM ?_
 refine yM ?_
 refine lN Tryz.underlying42 rfl sz42 rfl rfl ⟨rfl, trivial⟩ ?_
 refine lN Tryz.underlying42 rfl sz42 rfl rfl ⟨rfl, trivial⟩ ?_
 refine cS (fun n => 30 + 1000 * n) (s2) Tryz.func19 ?_
 refine yP (a_beqlT Tryz.underlying4) ?_
 refine yP zak ?_
 refine yA ?_
 refine zab ?_
 refine zaf ?_
 refine yT ?_ ?_
 ·exact rfl
 ·exact trivial
end Go.Proofs.YtgpleldhddpcgaaGreatDoor
