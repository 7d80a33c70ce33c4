/- stage.End, the reference's StageEnd; the law StageGoes, over data. -/
import Derived.Test.YtkdfdcodkeclmaaGreatDoorSSv2
import Derived.Test.YtkdfdcodkeclmaaGreatDoorSSv3
namespace Go.Proofs.YtkdfdcodkeclmaaGreatDoor
open Tryz
open Go.RowKit Go.Sort
set_option linter.unusedVariables false
set_option linter.unusedSimpArgs false
set_option maxRecDepth 100000
theorem stepD_s (s : SG) (ok : s.OK) (n : Int) (hn0 : -9223372036854775808 ≤ n) (hn1 : n ≤ 9223372036854775807) : Fn prog 12 [.agg s.cells, .p (.v (.int .i64 n))] (stR (stE s n)) [] := fn_st stE_e (step_s s ok n hn0 hn1)
theorem zga (s : SG) (ok : s.OK) (n : Int) (hn0 : -9223372036854775808 ≤ n) (hn1 : n ≤ 9223372036854775807) : Fn prog 14 [.agg s.cells, .p (.v (.int .i64 n))] (stR (stE s n)) [] := fn_st stE_e (refStep_s s ok n hn0 hn1)
theorem sgEnd_s (s : SG) (ok : s.OK) : Fn prog 13 [.agg s.cells] (sxV (sxE s)) [] := by
 obtain ⟨E, hE⟩ : ∃ E, sxE s = E := ⟨_, rfl⟩
 rw [hE]
 unfold sxE at hE
 have hS := stepD_s s ok 60 qD qD
 have hok := (stE_ok ok 60).2
 obtain ⟨⟨d, e⟩, hr⟩ : ∃ y, stE s 60 = y := ⟨_, rfl⟩
 rw [hr] at hS hE hok
 clear hr ok
 unfold stR at hS
 obtain ⟨lv, rest, ⟨key, port, l⟩, p, err⟩ := s
 obtain ⟨lv2, rest2, ⟨key2, port2, l2⟩, p2, err2⟩ := d
 dsimp only at hE hok hS
 have hCp := cfCopyD_s ⟨key2, port2, l2⟩ hok
 change Fn prog _ [.agg (cfC key2 port2 l2.length (l2.flatMap PE.pv))] (.agg (cfC key2 port2 l2.length (l2.flatMap PE.pv))) _ at hCp
 change Fn prog _ [.agg (sgC lv rest.length (rest.flatMap SE.pv) key port l.length (l.flatMap PE.pv) p err), _] (.tup [.agg (sgC lv2 rest2.length (rest2.flatMap SE.pv) key2 port2 l2.length (l2.flatMap PE.pv) p2 err2), _]) _ at hS
 show Fn prog _ [.agg (sgC lv rest.length (rest.flatMap SE.pv) key port l.length (l.flatMap PE.pv) p err)] _ _
 refine zat func13 rfl (qE rfl) fun w0 A => zaa<| tx<| wG (zaJ (X := .agg _) 1 rfl) rfl<| wG (zaE 2 zr24 rfl) rfl<| wA rfl<| zab<| zaa<| tx<| wN U40 sz40 rfl ?_
 refine cS (fun n => 8 + 1000 * n) (hS) func12 ?_
 refine wP (zam (r := .tup _)) rfl<| wP (zal rfl) rfl<| wP (zal rfl) rfl<| wG (zaE 4 zr40 rfl) rfl<| wG (zar (Y := .agg _) sz40 rfl (by first | exact Nat.eq_of_beq_eq_true rfl | (simp only [AV.cells, List.length_map]; first | assumption | omega)) (Nat.eq_of_beq_eq_true rfl)) rfl ?_
 refine wA rfl<| zab<| zaa<| zak<| zaa<| tx<| wM rfl<| wP zbw rfl<| wA rfl<| zab<| zaf<| zap _ rfl (fun h => ?_) (fun h => ?_)
 ·have h0 : e ≠ 0 := by simpa using h
  rw [if_pos h0] at hE
  subst hE
  rw [sxV_e h0]
  refine zaa<| tx<| wP (zaP pl24 zr24 rfl rfl) rfl<| wM rfl<| wG (zar (Y := .agg _) sz24 rfl (by first | exact Nat.eq_of_beq_eq_true rfl | (simp only [AV.cells, List.length_map]; first | assumption | omega)) (Nat.eq_of_beq_eq_true rfl)) rfl ?_
  refine wA rfl<| zab<| zag<| zaY<| zau ?_
  refine fT (fun o => o) (.cellN _ _ _ _ _ _ _ _ _ rfl rfl U24 rfl sz24 (by first | assumption | kernel_rfl) (.tmp _ _ _ _ rfl .nil)) ?_ ?_
  ·exact rfl
  ·exact trivial
 have h0 : ¬ e ≠ 0 := by simpa using h
 clear h
 rw [if_neg h0] at hE
 refine zaa<| tx<| wF zcB rfl<| wL U30 rfl<| wP zbw rfl<| wA rfl<| zab<| zaf<| zap _ rfl (fun h => ?_) (fun h => ?_)
 ·have h1 : err2 ≠ 0 := by simpa using h
  rw [if_pos h1] at hE
  subst hE
  rw [sxV_e h1]
  refine zaa<| zaB 4 qK<| wP (zaP pl24 zr24 rfl rfl) rfl<| wF zcB rfl<| wL U30 rfl<| wG (zar (Y := .agg _) sz24 rfl (by first | exact Nat.eq_of_beq_eq_true rfl | (simp only [AV.cells, List.length_map]; first | assumption | omega)) (Nat.eq_of_beq_eq_true rfl)) rfl ?_
  refine wA rfl<| zab ⟨qK, ?_⟩
  refine zag<| zaY<| zau ?_
  refine fT (fun o => o) (.cellN _ _ _ _ _ _ _ _ _ rfl rfl U24 rfl sz24 (by first | assumption | kernel_rfl) (.tmp _ _ _ _ rfl .nil)) ?_ ?_
  ·exact rfl
  ·exact trivial
 have h1 : ¬ err2 ≠ 0 := by simpa using h
 clear h
 rw [if_neg h1] at hE
 subst hE
 rw [sxV_o]
 refine zae<| zaa<| tx<| wF zch rfl<| wN U24 sz24 rfl ?_
 refine cS (fun n => 25 + 1000 * n) (hCp) F21 ?_
 refine wG (zar (Y := .agg _) sz24 rfl (by first | exact Nat.eq_of_beq_eq_true rfl | (simp only [AV.cells, List.length_map]; first | assumption | omega)) (Nat.eq_of_beq_eq_true rfl)) rfl ?_
 refine wA rfl<| zab<| zag ?_
 refine fT (fun o => o) (.cellN _ _ _ _ _ _ _ _ _ rfl rfl U24 rfl sz24 (by first | assumption | kernel_rfl) (.tmp _ _ _ _ rfl .nil)) ?_ ?_
 ·exact rfl
 ·exact trivial
theorem refSgEnd_s (s : SG) (ok : s.OK) : Fn prog 15 [.agg s.cells] (sxV (sxE s)) [] := by
 obtain ⟨E, hE⟩ : ∃ E, sxE s = E := ⟨_, rfl⟩
 rw [hE]
 unfold sxE at hE
 have hS := zga s ok 1000 qD qD
 rw [stE_1000] at hS
 obtain ⟨⟨d, e⟩, hr⟩ : ∃ y, stE s 60 = y := ⟨_, rfl⟩
 rw [hr] at hS hE
 clear hr ok
 unfold stR at hS
 obtain ⟨lv, rest, ⟨key, port, l⟩, p, err⟩ := s
 obtain ⟨lv2, rest2, ⟨key2, port2, l2⟩, p2, err2⟩ := d
 dsimp only at hE hS
 change Fn prog _ [.agg (sgC lv rest.length (rest.flatMap SE.pv) key port l.length (l.flatMap PE.pv) p err), _] (.tup [.agg (sgC lv2 rest2.length (rest2.flatMap SE.pv) key2 port2 l2.length (l2.flatMap PE.pv) p2 err2), _]) _ at hS
 show Fn prog _ [.agg (sgC lv rest.length (rest.flatMap SE.pv) key port l.length (l.flatMap PE.pv) p err)] _ _
 refine zat func15 rfl (qE rfl) fun w0 A => zaa<| tx<| wG (zaJ (X := .agg _) 1 rfl) rfl<| wG (zaE 2 zr24 rfl) rfl<| wA rfl<| zab<| zaa<| tx<| wN U40 sz40 rfl ?_
 refine cS (fun n => 8 + 1000 * n) (hS) func14 ?_
 refine wP (zam (r := .tup _)) rfl<| wP (zal rfl) rfl<| wP (zal rfl) rfl<| wG (zaE 4 zr40 rfl) rfl<| wG (zar (Y := .agg _) sz40 rfl (by first | exact Nat.eq_of_beq_eq_true rfl | (simp only [AV.cells, List.length_map]; first | assumption | omega)) (Nat.eq_of_beq_eq_true rfl)) rfl ?_
 refine wA rfl<| zab<| zaa<| zaa<| tx<| wM rfl<| wP zaz rfl<| zab<| zaf<| zap _ rfl (fun h => ?_) (fun h => ?_)
 ·have h0 : e = 0 := by simpa using h
  clear h
  rw [if_neg (by simp [h0])] at hE
  skip
  refine tx<| wF zcB rfl<| wL U30 rfl<| wA rfl<| zab<| zaa<| zaa<| tx<| wM rfl<| wP zbw rfl<| zab<| zaf<| zap _ rfl (fun h => ?_) (fun h => ?_)
  ·have h1 : err2 ≠ 0 := by simpa using h
   rw [if_pos h1] at hE
   subst hE
   rw [sxV_e h1]
   refine zaa<| tx<| wP (zaP pl24 zr24 rfl rfl) rfl<| wM rfl<| wG (zar (Y := .agg _) sz24 rfl (by first | exact Nat.eq_of_beq_eq_true rfl | (simp only [AV.cells, List.length_map]; first | assumption | omega)) (Nat.eq_of_beq_eq_true rfl)) rfl ?_
   refine wA rfl<| zab<| zag<| zau ?_
   refine fT (fun o => o) (.cellN _ _ _ _ _ _ _ _ _ rfl rfl U24 rfl sz24 (by first | assumption | kernel_rfl) (.tmp _ _ _ _ rfl .nil)) ?_ ?_
   ·exact rfl
   ·exact trivial
  have h1 : ¬ err2 ≠ 0 := by simpa using h
  clear h
  rw [if_neg h1] at hE
  subst hE
  rw [sxV_o]
  refine zae<| zaa<| tx<| wF zch rfl<| wN U24 sz24 rfl ?_
  refine wG (zar (Y := .agg _) sz24 rfl (by first | exact Nat.eq_of_beq_eq_true rfl | (simp only [AV.cells, List.length_map]; first | assumption | omega)) (Nat.eq_of_beq_eq_true rfl)) rfl ?_
  refine wA rfl<| zab<| zag ?_
  refine fT (fun o => o) (.cellN _ _ _ _ _ _ _ _ _ rfl rfl U24 rfl sz24 (by first | assumption | kernel_rfl) (.tmp _ _ _ _ rfl .nil)) ?_ ?_
  ·exact rfl
  ·exact trivial
 have h0 : e ≠ 0 := by simpa using h
 clear h
 rw [if_pos h0] at hE
 subst hE
 rw [sxV_e h0]
 refine zae<| zaa<| zaa ?_
 skip
 refine tx<| wM rfl<| wP zbw rfl<| zab<| zaf<| zap _ rfl (fun h => ?_) (fun h => ?_)
 ·refine zaa<| tx<| wP (zaP pl24 zr24 rfl rfl) rfl<| wM rfl<| wG (zar (Y := .agg _) sz24 rfl (by first | exact Nat.eq_of_beq_eq_true rfl | (simp only [AV.cells, List.length_map]; first | assumption | omega)) (Nat.eq_of_beq_eq_true rfl)) rfl ?_
  refine wA rfl<| zab<| zag<| zau ?_
  refine fT (fun o => o) (.cellN _ _ _ _ _ _ _ _ _ rfl rfl U24 rfl sz24 (by first | assumption | kernel_rfl) (.tmp _ _ _ _ rfl .nil)) ?_ ?_
  ·exact rfl
  ·exact trivial
 ·exact absurd (by simpa using h) h0
theorem law_StageGoes (x0 : List PV) (ty0 : Ty prog 10 40 x0) (hb0 : PV.bdL 1048576 x0) (x1 : List PV) (ty1 : Ty prog 10 3 x1) (hb1 : PV.bdL 1048576 x1) :
  Fn prog 5 [argAV true x0, argAV false x1] (.p (.v (.bool true))) [] := by
 obtain ⟨s, ok, rfl⟩ := SG.of_ty ty0 hb0
 obtain ⟨n, rfl, hn⟩ := zdV U3 ty1
 obtain ⟨n0, n1⟩ := wf_i64 hn
 have p1 := stepD_s s ok n n0 n1
 have q1 := zga s ok n n0 n1
 have p2 := fn_en sxE_e (sgEnd_s s ok)
 have q2 := fn_en sxE_e (refSgEnd_s s ok)
 obtain ⟨dl, dc⟩ := stE_ok ok n
 have pT := zf4 (sxE s).1 (sxE_ok ok)
 obtain ⟨⟨d, e⟩, hr⟩ : ∃ y, stE s n = y := ⟨_, rfl⟩
 obtain ⟨⟨c, e2⟩, hr2⟩ : ∃ y, sxE s = y := ⟨_, rfl⟩
 rw [hr] at p1 q1 dl dc
 rw [hr2] at p2 q2 pT
 clear hr hr2 ok
 dsimp only at dl dc pT
 have pS := sameStageP d.lv _ _ d.c.key d.c.port d.at_ d.err (sameSets_s d.rest dl) (zf4 d.c dc)
 clear dl dc
 unfold stR at p1 q1
 unfold sxR at p2 q2
 obtain ⟨lv, rest, ⟨key, port, l⟩, p, err⟩ := s
 obtain ⟨lv2, rest2, ⟨key2, port2, l2⟩, p2', err2⟩ := d
 obtain ⟨key3, port3, l3⟩ := c
 dsimp only at p1 q1 p2 q2 pS
 change Fn prog _ [.agg (sgC lv rest.length (rest.flatMap SE.pv) key port l.length (l.flatMap PE.pv) p err), _] (.tup [.agg (sgC lv2 rest2.length (rest2.flatMap SE.pv) key2 port2 l2.length (l2.flatMap PE.pv) p2' err2), _]) _ at p1 q1
 change Fn prog _ [.agg (sgC lv rest.length (rest.flatMap SE.pv) key port l.length (l.flatMap PE.pv) p err)] (.tup [.agg (cfC key3 port3 l3.length (l3.flatMap PE.pv)), _]) _ at p2 q2
 change Fn prog _ [.agg (sgC lv2 rest2.length (rest2.flatMap SE.pv) key2 port2 l2.length (l2.flatMap PE.pv) p2' err2), .agg (sgC lv2 rest2.length (rest2.flatMap SE.pv) key2 port2 l2.length (l2.flatMap PE.pv) p2' err2)] _ _ at pS
 change Fn prog _ [.agg (cfC key3 port3 l3.length (l3.flatMap PE.pv)), .agg (cfC key3 port3 l3.length (l3.flatMap PE.pv))] _ _ at pT
 show Fn prog 5 [.agg (sgC lv rest.length (rest.flatMap SE.pv) key port l.length (l.flatMap PE.pv) p err), .p (.v (.int .i64 n))] (.p (.v (.bool true))) []
 generalize l.flatMap PE.pv = L at *
 generalize l2.flatMap PE.pv = L2 at *
 generalize l3.flatMap PE.pv = L3 at *
 generalize rest.flatMap SE.pv = S at *
 generalize rest2.flatMap SE.pv = S2 at *
 refine zat func5 rfl (qE rfl) fun w0 A => zaa<| tx<| wG (zaJ (X := .agg _) 2 rfl) rfl<| wA rfl<| zab<| zaa<| tx<| wN U40 sz40 rfl ?_
 refine wM rfl<| cS (fun n => 16 + 1000 * n) (p1) func12 ?_
 refine wP (zam (r := .tup _)) rfl<| wP (zal rfl) rfl<| wP (zal rfl) rfl<| wG (zaE 5 zr40 rfl) rfl<| wG (zar (Y := .agg _) sz40 rfl (by first | exact Nat.eq_of_beq_eq_true rfl | (simp only [AV.cells, List.length_map]; first | assumption | omega)) (Nat.eq_of_beq_eq_true rfl)) rfl ?_
 refine wA rfl<| zab<| zaa<| tx<| wN U40 sz40 rfl ?_
 refine cS (fun n => 21 + 1000 * n) (p2) func13 ?_
 refine wP (zam (r := .tup _)) rfl<| wP (zal rfl) rfl<| wP (zal rfl) rfl<| wG (zaE 7 zr24 rfl) rfl<| wG (zar (Y := .agg _) sz24 rfl (by first | exact Nat.eq_of_beq_eq_true rfl | (simp only [AV.cells, List.length_map]; first | assumption | omega)) (Nat.eq_of_beq_eq_true rfl)) rfl ?_
 refine wA rfl<| zab<| zaa<| tx<| wN U40 sz40 rfl ?_
 refine wM rfl<| cS (fun n => 27 + 1000 * n) (q1) func14 ?_
 refine wP (zam (r := .tup _)) rfl<| wP (zal rfl) rfl<| wP (zal rfl) rfl<| wG (zaE 9 zr40 rfl) rfl<| wG (zar (Y := .agg _) sz40 rfl (by first | exact Nat.eq_of_beq_eq_true rfl | (simp only [AV.cells, List.length_map]; first | assumption | omega)) (Nat.eq_of_beq_eq_true rfl)) rfl ?_
 refine wA rfl<| zab<| zaa<| tx<| wN U40 sz40 rfl ?_
 refine cS (fun n => 32 + 1000 * n) (q2) func15 ?_
 refine wP (zam (r := .tup _)) rfl<| wP (zal rfl) rfl<| wP (zal rfl) rfl<| wG (zaE 11 zr24 rfl) rfl<| wG (zar (Y := .agg _) sz24 rfl (by first | exact Nat.eq_of_beq_eq_true rfl | (simp only [AV.cells, List.length_map]; first | assumption | omega)) (Nat.eq_of_beq_eq_true rfl)) rfl ?_
 refine wA rfl<| zab<| zaa<| tx<| wN U40 sz40 rfl ?_
 refine wN U40 sz40 rfl ?_
 refine cS (fun n => 37 + 1000 * n) (pS) func16 ?_
 refine wM rfl<| wM rfl<| wM rfl<| wP za0 rfl<| wP zao rfl<| wM rfl<| wN U24 sz24 rfl ?_
 refine wN U24 sz24 rfl ?_
 refine cS (fun n => 46 + 1000 * n) (pT) func9 ?_
 refine wP zao rfl<| wM rfl<| wM rfl<| wM rfl<| wP za0 rfl<| wP zao rfl<| wA rfl<| zab<| zag<| yT ?_ ?_
 ·exact rfl
 ·exact trivial
end Go.Proofs.YtkdfdcodkeclmaaGreatDoor
