/- Tries, the references: the check. -/
import Derived.Test.YtgpleldhddpcgaaGreatDoorSTw7
import Derived.Test.YtgpleldhddpcgaaGreatDoorSEq2
import Derived.Test.YtgpleldhddpcgaaGreatDoorSEq3
import Derived.Test.YtgpleldhddpcgaaGreatDoorSTw3
namespace Go.Proofs.YtgpleldhddpcgaaGreatDoor
open Go.RowKit Go.Sort
set_option linter.unusedVariables false
set_option linter.unusedSimpArgs false
set_option maxRecDepth 100000
theorem ND.of_ty {n : Nat} {ps : List PV} (h : Ty Tryz.prog (n + 3) 55 ps) : ∃ x : ND, x.OK ∧ ps = x.pv := by
 obtain ⟨_, rfl, x0, _, rfl, t0, x1, _, rfl, t1, x2, _, rfl, t2, rfl⟩ := zbv (ts := [52, 9, 3]) (by kernel_rfl) h
 obtain ⟨_, rfl, y0, _, rfl, u0, y1, _, rfl, u1, rfl⟩ := zbv (ts := [50, 3]) (by kernel_rfl) t0
 obtain ⟨a1, rfl, w1⟩ := zbS Tryz.underlying9 t1
 obtain ⟨a2, rfl, w2⟩ := zbM Tryz.underlying3 t2
 obtain ⟨b0, rfl, v0⟩ := zbM Tryz.underlying50 u0
 obtain ⟨b1, rfl, v1⟩ := zbM Tryz.underlying3 u1
 refine ⟨⟨b0, b1, a1, a2⟩, ?_, rfl⟩
 have := zeQ w2; have := zeQ v1; have := wf_u32 v0
 have : reachBytes ≤ 140737488351232 := Nat.le_of_ble_eq_true rfl
 constructor <;> simp only <;> omega
theorem nodes_of_ty {n : Nat} {ps : List PV} (h : Ty Tryz.prog (n + 4) 25 ps) : ∃ l : List ND, (∀ x ∈ l, x.OK) ∧ l.length * 40 ≤ 140737488351232 ∧ ps = [ndsV l] := by
 obtain ⟨L, rfl, hz, hL⟩ := ty_sliceS Tryz.underlying25 (sz := 4) (by kernel_rfl) h
 have hb : Tryz.prog.bytesOf 55 = 40 := by kernel_rfl
 rw [hb] at hz
 have : reachBytes ≤ 140737488351232 := Nat.le_of_ble_eq_true rfl
 have hex : ∃ l : List ND, (∀ x ∈ l, x.OK) ∧ L = l.map ND.pv := by
  clear hz this h
  induction L with
  | nil => exact ⟨[], by simp, rfl⟩
  | cons y L ih =>
   obtain ⟨l, h1, h2⟩ := ih (fun x hx => hL x (by simp [hx]))
   obtain ⟨x, hx, e⟩ := ND.of_ty (hL y (by simp)).1
   refine ⟨x :: l, fun z hz => ?_, by rw [h2, e]; rfl⟩
   rcases List.mem_cons.1 hz with rfl | hz
   ·exact hx
   ·exact h1 z hz
 obtain ⟨l, h1, rfl⟩ := hex
 rw [List.length_map] at hz
 refine ⟨l, h1, by omega, ?_⟩
 rw [List.length_map]
 unfold ndsV nds
 rw [List.flatMap_def]
end Go.Proofs.YtgpleldhddpcgaaGreatDoor
/- A daemon, typed, as data; are two daemons the same? law.sameDaemon, daemon.Same, over data. -/
namespace Go.Proofs.YtgpleldhddpcgaaGreatDoor
open Go.RowKit Go.Sort
set_option linter.unusedVariables false
set_option linter.unusedSimpArgs false
set_option maxRecDepth 100000
/-- a daemon -/
structure DM where
 c : CF
 tree : List ND
 ps : List ST
 sg : SG
 gen : Int
 now : Int
 last : Int
def dmC (key : ByteArray) (port : Int) (P T S : PV) (lv : Bool) (R : PV) (sk : ByteArray) (sp : Int) (Q : PV) (at_ : ByteArray) (err gen now last : Int) : List AV :=
 [.p (.v (.string key)), .p (.v (.int .i64 port)), .p P, .p T, .p S, .p (.v (.bool lv)), .p R, .p (.v (.string sk)), .p (.v (.int .i64 sp)), .p Q, .p (.v (.string at_)), .p (.v (.int .i64 err)), .p (.v (.int .i64 gen)), .p (.v (.int .i64 now)), .p (.v (.int .i64 last))]
def CF.row (c : CF) : PV := .sl c.ps.length 5 (c.ps.flatMap PE.pv)
def stsV (l : List ST) : PV := .sl l.length 41 (l.flatMap ST.pv)
def sesV (l : List SE) : PV := .sl l.length 5 (l.flatMap SE.pv)
def DM.cells (d : DM) : List AV := dmC d.c.key d.c.port d.c.row (ndsV d.tree) (stsV d.ps) d.sg.lv (sesV d.sg.rest) d.sg.c.key d.sg.c.port d.sg.c.row d.sg.at_ d.sg.err d.gen d.now d.last
def DM.pv (d : DM) : List PV := d.c.pv ++ [ndsV d.tree, stsV d.ps] ++ d.sg.pv ++ [.v (.int .i64 d.gen), .v (.int .i64 d.now), .v (.int .i64 d.last)]
structure DM.OK (d : DM) : Prop where
 c : d.c.OK
 tree : ∀ x ∈ d.tree, x.OK
 treeN : d.tree.length * 40 ≤ 140737488351232
 ps : ∀ s ∈ d.ps, s.OK ∧ s.B
 psN : d.ps.length ≤ 1048576
 sg : d.sg.OK
theorem DM.of_ty {n : Nat} {ps : List PV} (h : Ty Tryz.prog (n + 9) 42 ps) (hb : PV.bdL 1048576 ps) : ∃ d : DM, d.OK ∧ ps = d.pv := by
 obtain ⟨_, rfl, x0, _, rfl, t0, x1, _, rfl, t1, x2, _, rfl, t2, x3, _, rfl, t3, x4, _, rfl, t4, x5, _, rfl, t5, x6, _, rfl, t6, rfl⟩ := zbv (ts := [24, 25, 40, 35, 3, 3, 3]) (by kernel_rfl) h
 obtain ⟨c, okc, rfl⟩ := CF.of_ty t0 (zbD hb x0 (by simp))
 obtain ⟨tr, okt, hz, rfl⟩ := nodes_of_ty t1
 obtain ⟨l, okl, hl, rfl⟩ := ST.list_tyB t2 (zbD hb x2 (by simp))
 obtain ⟨s, oks, rfl⟩ := SG.of_ty t3 (zbD hb x3 (by simp))
 obtain ⟨a4, rfl, _⟩ := zbM Tryz.underlying3 t4
 obtain ⟨a5, rfl, _⟩ := zbM Tryz.underlying3 t5
 obtain ⟨a6, rfl, _⟩ := zbM Tryz.underlying3 t6
 exact ⟨⟨c, tr, l, s, a4, a5, a6⟩, ⟨okc, okt, hz, okl, hl, oks⟩, by simp [DM.pv, stsV]⟩
noncomputable def sgB (s t : SG) : Bool := ((((s.lv == t.lv) && eqB s.rest t.rest) && cfB s.c t.c) && decide (s.at_ = t.at_)) && (s.err == t.err)
noncomputable def dmB (d o : DM) : Bool := (((((cfB d.c o.c && eqB d.tree o.tree) && eqB d.ps o.ps) && sgB d.sg o.sg) && (d.gen == o.gen)) && (d.now == o.now)) && (d.last == o.last)
theorem cfB_self (c : CF) : cfB c c = true := by simp [cfB, zhm]
theorem sgB_self (s : SG) : sgB s s = true := by simp [sgB, zhm, cfB_self]
theorem dmB_self (d : DM) : dmB d d = true := by simp [dmB, zhm, cfB_self, sgB_self]
theorem sameNodes_d (l m : List ND) (hl : l.length ≤ 4611686018427387904) (hm : m.length ≤ 4611686018427387904) : Fn Tryz.prog 9 [.p (ndsV l), .p (ndsV m)] (.p (.v (.bool (eqB l m)))) [] := by
 have hC := zgp l m hl hm
 change Fn Tryz.prog _ [.p (ndsV l), .p (ndsV m)] _ _ at hC
 generalize eqB l m = b at *
 generalize ndsV l = L at *
 generalize ndsV m = M at *
 refine zap Tryz.func9 rfl (Nat.le_of_ble_eq_true rfl) fun w0 A => ?_
 refine zaa ?_
 refine tx ?_
 refine yA ?_
 refine zab ?_
 refine zaa ?_
 refine tx ?_
 refine yM ?_
 refine yM ?_
 refine cS (fun n => 7 + 1000 * n) (hC) Tryz.func24 ?_
 refine yA ?_
 refine zab ?_
 refine zaf ?_
 refine yT ?_ ?_
 ·exact rfl
 ·exact trivial
theorem sameSets_d (l m : List SE) (hl : l.length ≤ 4611686018427387904) (hm : m.length ≤ 4611686018427387904) : Fn Tryz.prog 33 [.p (sesV l), .p (sesV m)] (.p (.v (.bool (eqB l m)))) [] := by
 have hC := eqSets_d l m hl hm
 change Fn Tryz.prog _ [.p (sesV l), .p (sesV m)] _ _ at hC
 generalize eqB l m = b at *
 generalize sesV l = L at *
 generalize sesV m = M at *
 refine zap Tryz.func33 rfl (Nat.le_of_ble_eq_true rfl) fun w0 A => ?_
 refine zaa ?_
 refine tx ?_
 refine yA ?_
 refine zab ?_
 refine zaa ?_
 refine tx ?_
 refine yM ?_
 refine yM ?_
 refine cS (fun n => 7 + 1000 * n) (hC) Tryz.func44 ?_
 refine yA ?_
 refine zab ?_
 refine zaf ?_
 refine yT ?_ ?_
 ·exact rfl
 ·exact trivial
def sgV (lv : Bool) (R : PV) (sk : ByteArray) (sp : Int) (Q : PV) (at_ : ByteArray) (err : Int) : List AV := [.p (.v (.bool lv)), .p R, .p (.v (.string sk)), .p (.v (.int .i64 sp)), .p Q, .p (.v (.string at_)), .p (.v (.int .i64 err))]
def cfV (k : ByteArray) (p : Int) (Q : PV) : List AV := [.p (.v (.string k)), .p (.v (.int .i64 p)), .p Q]
theorem sameStage_d (s t : SG) (os : s.OK) (ot : t.OK) : Fn Tryz.prog 14 [.agg s.cells, .agg t.cells] (.p (.v (.bool (sgB s t)))) [] := by
 have hS := sameSets_d s.rest t.rest (by have := os.len; omega) (by have := ot.len; omega)
 have hC := zgF s.c t.c os.c ot.c
 clear os ot
 obtain ⟨v1, r1, ⟨k1, p1, q1⟩, a1, e1⟩ := s
 obtain ⟨v2, r2, ⟨k2, p2, q2⟩, a2, e2⟩ := t
 dsimp only at hS hC
 change Fn Tryz.prog _ [.agg (cfV k1 p1 (CF.row ⟨k1, p1, q1⟩)), .agg (cfV k2 p2 (CF.row ⟨k2, p2, q2⟩))] _ _ at hC
 show Fn Tryz.prog _ [.agg (sgV v1 (sesV r1) k1 p1 (CF.row ⟨k1, p1, q1⟩) a1 e1), .agg (sgV v2 (sesV r2) k2 p2 (CF.row ⟨k2, p2, q2⟩) a2 e2)] (.p (.v (.bool (((((v1 == v2) && eqB r1 r2) && cfB ⟨k1, p1, q1⟩ ⟨k2, p2, q2⟩) && decide (a1 = a2)) && (e1 == e2))))) _
 generalize cfB ⟨k1, p1, q1⟩ ⟨k2, p2, q2⟩ = cb at *
 generalize CF.row ⟨k1, p1, q1⟩ = Q1 at *
 generalize CF.row ⟨k2, p2, q2⟩ = Q2 at *
 generalize eqB r1 r2 = rb at *
 generalize sesV r1 = R1 at *
 generalize sesV r2 = R2 at *
 refine zap Tryz.func14 rfl (Nat.le_of_ble_eq_true rfl) fun w0 A => ?_
 refine zaa ?_
 refine tx ?_
 refine zal (za2 (X := .agg _) 2 rfl) rfl rfl ⟨rfl, trivial⟩ ?_
 refine zal (za2 (X := .agg _) 3 rfl) rfl rfl ⟨rfl, trivial⟩ ?_
 refine yA ?_
 refine zab ?_
 refine zaa ?_
 refine tx ?_
 refine yF zgS ?_
 refine yL Tryz.underlying4 ?_
 refine yF zgS ?_
 refine yL Tryz.underlying4 ?_
 (first | refine zac (a_beql Tryz.underlying4) rfl rfl ?_ | refine zac (a_beqlT Tryz.underlying4) rfl rfl ?_)
 refine yM ?_
 (first | refine mb2 _ rfl rfl (fun hb => (zag zc7 rfl)) (fun _ => trivial) ?_ | refine yF zc7 ?_)
 (first | refine mb2 _ rfl rfl (fun hb => (zat Tryz.underlying33 rfl (by first | rfl | assumption))) (fun _ => ⟨rfl, trivial⟩) ?_ | refine yL Tryz.underlying33 ?_)
 (first | refine mb2 _ rfl rfl (fun hb => (zag zc7 rfl)) (fun _ => trivial) ?_ | refine yF zc7 ?_)
 (first | refine mb2 _ rfl rfl (fun hb => (zat Tryz.underlying33 rfl (by first | rfl | assumption))) (fun _ => ⟨rfl, trivial⟩) ?_ | refine yL Tryz.underlying33 ?_)
 refine mb2 _ rfl rfl (fun _ => zbd Tryz.func33 rfl rfl (hS) (by first | rfl | simp [AV.okInL, AV.okIn, zaZ]) rfl) (fun _ => trivial) ?_
 (first | refine zac (zbl (by first | exact id | (simp; done) | grind)) rfl rfl ?_ | refine zac zak rfl rfl ?_)
 refine yM ?_
 (first | refine mb2 _ rfl rfl (fun hb => (zag zcD rfl)) (fun _ => trivial) ?_ | refine yF zcD ?_)
 (first | refine mb2 _ rfl rfl (fun hb => (zaL Tryz.underlying24 rfl sz24 (by first | exact Nat.le_of_ble_eq_true rfl | omega | (simp only [AV.cells, List.length_map]; omega)) (by first | exact zce (by first | assumption | exact Nat.eq_of_beq_eq_true rfl | (simp only [AV.cells, List.length_map]; first | assumption | omega)) | (simp only [List.take_succ_cons, List.take_zero, List.drop_succ_cons, List.drop_zero]; rfl) | rfl))) (fun _ => ⟨rfl, trivial⟩) ?_ | refine lN Tryz.underlying24 rfl sz24 rfl rfl ⟨rfl, trivial⟩ ?_)
 (first | refine mb2 _ rfl rfl (fun hb => (zag zcD rfl)) (fun _ => trivial) ?_ | refine yF zcD ?_)
 (first | refine mb2 _ rfl rfl (fun hb => (zaL Tryz.underlying24 rfl sz24 (by first | exact Nat.le_of_ble_eq_true rfl | omega | (simp only [AV.cells, List.length_map]; omega)) (by first | exact zce (by first | assumption | exact Nat.eq_of_beq_eq_true rfl | (simp only [AV.cells, List.length_map]; first | assumption | omega)) | (simp only [List.take_succ_cons, List.take_zero, List.drop_succ_cons, List.drop_zero]; rfl) | rfl))) (fun _ => ⟨rfl, trivial⟩) ?_ | refine lN Tryz.underlying24 rfl sz24 rfl rfl ⟨rfl, trivial⟩ ?_)
 refine mb2 _ rfl rfl (fun _ => zbd Tryz.func34 rfl rfl (hC) (by first | rfl | simp [AV.okInL, AV.okIn, zaZ]) rfl) (fun _ => trivial) ?_
 (first | refine zac (zbl (by first | exact id | (simp; done) | grind)) rfl rfl ?_ | refine zac zak rfl rfl ?_)
 refine yM ?_
 (first | refine mb2 _ rfl rfl (fun hb => (zag zdO rfl)) (fun _ => trivial) ?_ | refine yF zdO ?_)
 (first | refine mb2 _ rfl rfl (fun hb => (zat Tryz.underlying9 rfl (by first | rfl | assumption))) (fun _ => ⟨rfl, trivial⟩) ?_ | refine yL Tryz.underlying9 ?_)
 (first | refine mb2 _ rfl rfl (fun hb => (zag zdO rfl)) (fun _ => trivial) ?_ | refine yF zdO ?_)
 (first | refine mb2 _ rfl rfl (fun hb => (zat Tryz.underlying9 rfl (by first | rfl | assumption))) (fun _ => ⟨rfl, trivial⟩) ?_ | refine yL Tryz.underlying9 ?_)
 (first | refine mb2 _ rfl rfl (fun hb => zbQ) (fun _ => trivial) ?_ | refine zac zd9 rfl rfl ?_)
 (first | refine zac (zbl (by first | exact id | (simp; done) | grind)) rfl rfl ?_ | refine zac zak rfl rfl ?_)
 refine yM ?_
 (first | refine mb2 _ rfl rfl (fun hb => (zag zdN rfl)) (fun _ => trivial) ?_ | refine yF zdN ?_)
 (first | refine mb2 _ rfl rfl (fun hb => (zat Tryz.underlying26 rfl (by first | rfl | assumption))) (fun _ => ⟨rfl, trivial⟩) ?_ | refine yL Tryz.underlying26 ?_)
 (first | refine mb2 _ rfl rfl (fun hb => (zag zdN rfl)) (fun _ => trivial) ?_ | refine yF zdN ?_)
 (first | refine mb2 _ rfl rfl (fun hb => (zat Tryz.underlying26 rfl (by first | rfl | assumption))) (fun _ => ⟨rfl, trivial⟩) ?_ | refine yL Tryz.underlying26 ?_)
 (first | refine mb2 _ rfl rfl (fun hb => zaF) (fun _ => trivial) ?_ | refine zac zb6 rfl rfl ?_)
 (first | refine zac (zbl (by first | exact id | (simp; done) | grind)) rfl rfl ?_ | refine zac zak rfl rfl ?_)
 refine yA ?_
 refine zab ?_
 refine zaf ?_
 refine yT ?_ ?_
 ·exact rfl
 ·exact trivial
theorem zfs (d o : DM) (od : d.OK) (oo : o.OK) : Fn Tryz.prog 19 [.agg d.cells, .agg o.cells] (.p (.v (.bool (dmB d o)))) [] := by
 have hC := zgF d.c o.c od.c oo.c
 have hT := sameNodes_d d.tree o.tree (by have := od.treeN; omega) (by have := oo.treeN; omega)
 have hS := sameStates_d d.ps o.ps od.psN oo.psN (fun s hs => (od.ps s hs).2) (fun s hs => (oo.ps s hs).2)
 have hG := sameStage_d d.sg o.sg od.sg oo.sg
 clear od oo
 obtain ⟨⟨k1, p1, q1⟩, t1, s1, ⟨v1, r1, ⟨sk1, sp1, sq1⟩, a1, e1⟩, g1, w1, l1'⟩ := d
 obtain ⟨⟨k2, p2, q2⟩, t2, s2, ⟨v2, r2, ⟨sk2, sp2, sq2⟩, a2, e2⟩, g2, w2, l2'⟩ := o
 dsimp only at hC hT hS hG
 change Fn Tryz.prog _ [.agg (cfV k1 p1 (CF.row ⟨k1, p1, q1⟩)), .agg (cfV k2 p2 (CF.row ⟨k2, p2, q2⟩))] _ _ at hC
 change Fn Tryz.prog _ [.p (stsV s1), .p (stsV s2)] _ _ at hS
 change Fn Tryz.prog _ [.agg (sgV v1 (sesV r1) sk1 sp1 (CF.row ⟨sk1, sp1, sq1⟩) a1 e1), .agg (sgV v2 (sesV r2) sk2 sp2 (CF.row ⟨sk2, sp2, sq2⟩) a2 e2)] _ _ at hG
 show Fn Tryz.prog _ [.agg (dmC k1 p1 (CF.row ⟨k1, p1, q1⟩) (ndsV t1) (stsV s1) v1 (sesV r1) sk1 sp1 (CF.row ⟨sk1, sp1, sq1⟩) a1 e1 g1 w1 l1'), .agg (dmC k2 p2 (CF.row ⟨k2, p2, q2⟩) (ndsV t2) (stsV s2) v2 (sesV r2) sk2 sp2 (CF.row ⟨sk2, sp2, sq2⟩) a2 e2 g2 w2 l2')] (.p (.v (.bool ((((((cfB ⟨k1, p1, q1⟩ ⟨k2, p2, q2⟩ && eqB t1 t2) && eqB s1 s2) && sgB ⟨v1, r1, ⟨sk1, sp1, sq1⟩, a1, e1⟩ ⟨v2, r2, ⟨sk2, sp2, sq2⟩, a2, e2⟩) && (g1 == g2)) && (w1 == w2)) && (l1' == l2'))))) _
 generalize sgB ⟨v1, r1, ⟨sk1, sp1, sq1⟩, a1, e1⟩ ⟨v2, r2, ⟨sk2, sp2, sq2⟩, a2, e2⟩ = gb at *
 generalize cfB ⟨k1, p1, q1⟩ ⟨k2, p2, q2⟩ = cb at *
 generalize CF.row ⟨k1, p1, q1⟩ = Q1 at *
 generalize CF.row ⟨k2, p2, q2⟩ = Q2 at *
 generalize eqB t1 t2 = tb at *
 generalize ndsV t1 = T1 at *
 generalize ndsV t2 = T2 at *
 generalize eqB s1 s2 = pb at *
 generalize stsV s1 = S1 at *
 generalize stsV s2 = S2 at *
 generalize CF.row ⟨sk1, sp1, sq1⟩ = SQ1 at *
 generalize CF.row ⟨sk2, sp2, sq2⟩ = SQ2 at *
 generalize sesV r1 = R1 at *
 generalize sesV r2 = R2 at *
 refine zap Tryz.func19 rfl (Nat.le_of_ble_eq_true rfl) fun w0 A => ?_
 refine zaa ?_
 refine tx ?_
 refine zal (za2 (X := .agg _) 2 rfl) rfl rfl ⟨rfl, trivial⟩ ?_
 refine zal (za2 (X := .agg _) 3 rfl) rfl rfl ⟨rfl, trivial⟩ ?_
 refine yA ?_
 refine zab ?_
 refine zaa ?_
 refine tx ?_
 refine yF zbK ?_
 refine lN Tryz.underlying24 rfl sz24 rfl rfl ⟨rfl, trivial⟩ ?_
 refine yF zbK ?_
 refine lN Tryz.underlying24 rfl sz24 rfl rfl ⟨rfl, trivial⟩ ?_
 refine cS (fun n => 9 + 1000 * n) (hC) Tryz.func34 ?_
 refine yM ?_
 refine mb2 _ rfl rfl (fun hb => (zag zdr rfl)) (fun _ => trivial) ?_
 refine mb2 _ rfl rfl (fun hb => (zat Tryz.underlying25 rfl (by first | rfl | assumption))) (fun _ => ⟨rfl, trivial⟩) ?_
 refine mb2 _ rfl rfl (fun hb => (zag zdr rfl)) (fun _ => trivial) ?_
 refine mb2 _ rfl rfl (fun hb => (zat Tryz.underlying25 rfl (by first | rfl | assumption))) (fun _ => ⟨rfl, trivial⟩) ?_
 refine mb2 _ rfl rfl (fun _ => zbd Tryz.func9 rfl rfl (hT) (by first | rfl | simp [AV.okInL, AV.okIn, zaZ]) rfl) (fun _ => trivial) ?_
 refine zac (zbl (by first | exact id | (simp; done) | grind)) rfl rfl ?_
 refine yM ?_
 refine mb2 _ rfl rfl (fun hb => (zag zct rfl)) (fun _ => trivial) ?_
 refine mb2 _ rfl rfl (fun hb => (zat Tryz.underlying40 rfl (by first | rfl | assumption))) (fun _ => ⟨rfl, trivial⟩) ?_
 refine mb2 _ rfl rfl (fun hb => (zag zct rfl)) (fun _ => trivial) ?_
 refine mb2 _ rfl rfl (fun hb => (zat Tryz.underlying40 rfl (by first | rfl | assumption))) (fun _ => ⟨rfl, trivial⟩) ?_
 refine mb2 _ rfl rfl (fun _ => zbd Tryz.func52 rfl rfl (hS) (by first | rfl | simp [AV.okInL, AV.okIn, zaZ]) rfl) (fun _ => trivial) ?_
 refine zac (zbl (by first | exact id | (simp; done) | grind)) rfl rfl ?_
 refine yM ?_
 refine mb2 _ rfl rfl (fun hb => (zag zcC rfl)) (fun _ => trivial) ?_
 refine mb2 _ rfl rfl (fun hb => (zaL Tryz.underlying35 rfl sz35 (by first | exact Nat.le_of_ble_eq_true rfl | omega | (simp only [AV.cells, List.length_map]; omega)) (by first | exact zce (by first | assumption | exact Nat.eq_of_beq_eq_true rfl | (simp only [AV.cells, List.length_map]; first | assumption | omega)) | (simp only [List.take_succ_cons, List.take_zero, List.drop_succ_cons, List.drop_zero]; rfl) | rfl))) (fun _ => ⟨rfl, trivial⟩) ?_
 refine mb2 _ rfl rfl (fun hb => (zag zcC rfl)) (fun _ => trivial) ?_
 refine mb2 _ rfl rfl (fun hb => (zaL Tryz.underlying35 rfl sz35 (by first | exact Nat.le_of_ble_eq_true rfl | omega | (simp only [AV.cells, List.length_map]; omega)) (by first | exact zce (by first | assumption | exact Nat.eq_of_beq_eq_true rfl | (simp only [AV.cells, List.length_map]; first | assumption | omega)) | (simp only [List.take_succ_cons, List.take_zero, List.drop_succ_cons, List.drop_zero]; rfl) | rfl))) (fun _ => ⟨rfl, trivial⟩) ?_
 refine mb2 _ rfl rfl (fun _ => zbd Tryz.func14 rfl rfl (hG) (by first | rfl | simp [AV.okInL, AV.okIn, zaZ]) rfl) (fun _ => trivial) ?_
 refine zac (zbl (by first | exact id | (simp; done) | grind)) rfl rfl ?_
 refine yM ?_
 refine mb2 _ rfl rfl (fun hb => (zag zfA rfl)) (fun _ => trivial) ?_
 refine mb2 _ rfl rfl (fun hb => (zat Tryz.underlying3 rfl (by first | rfl | assumption))) (fun _ => ⟨rfl, trivial⟩) ?_
 refine mb2 _ rfl rfl (fun hb => (zag zfA rfl)) (fun _ => trivial) ?_
 refine mb2 _ rfl rfl (fun hb => (zat Tryz.underlying3 rfl (by first | rfl | assumption))) (fun _ => ⟨rfl, trivial⟩) ?_
 refine mb2 _ rfl rfl (fun hb => zaF) (fun _ => trivial) ?_
 refine zac (zbl (by first | exact id | (simp; done) | grind)) rfl rfl ?_
 refine yM ?_
 refine mb2 _ rfl rfl (fun hb => (zag zc6 rfl)) (fun _ => trivial) ?_
 refine mb2 _ rfl rfl (fun hb => (zat Tryz.underlying3 rfl (by first | rfl | assumption))) (fun _ => ⟨rfl, trivial⟩) ?_
 refine mb2 _ rfl rfl (fun hb => (zag zc6 rfl)) (fun _ => trivial) ?_
 refine mb2 _ rfl rfl (fun hb => (zat Tryz.underlying3 rfl (by first | rfl | assumption))) (fun _ => ⟨rfl, trivial⟩) ?_
 refine mb2 _ rfl rfl (fun hb => zaF) (fun _ => trivial) ?_
 refine zac (zbl (by first | exact id | (simp; done) | grind)) rfl rfl ?_
 refine yM ?_
 refine mb2 _ rfl rfl (fun hb => (zag zfz rfl)) (fun _ => trivial) ?_
 refine mb2 _ rfl rfl (fun hb => (zat Tryz.underlying3 rfl (by first | rfl | assumption))) (fun _ => ⟨rfl, trivial⟩) ?_
 refine mb2 _ rfl rfl (fun hb => (zag zfz rfl)) (fun _ => trivial) ?_
 refine mb2 _ rfl rfl (fun hb => (zat Tryz.underlying3 rfl (by first | rfl | assumption))) (fun _ => ⟨rfl, trivial⟩) ?_
 refine mb2 _ rfl rfl (fun hb => zaF) (fun _ => trivial) ?_
 refine zac (zbl (by first | exact id | (simp; done) | grind)) rfl rfl ?_
 refine yA ?_
 refine zab ?_
 refine zaf ?_
 refine yT ?_ ?_
 ·exact rfl
 ·exact trivial
end Go.Proofs.YtgpleldhddpcgaaGreatDoor
