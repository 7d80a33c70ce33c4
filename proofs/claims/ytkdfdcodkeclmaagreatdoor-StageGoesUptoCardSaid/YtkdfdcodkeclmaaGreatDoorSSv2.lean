/- stage.Step, over data. -/
import Derived.Test.YtkdfdcodkeclmaaGreatDoorSSv1
namespace Go.Proofs.YtkdfdcodkeclmaaGreatDoor
open Tryz
open Go.RowKit Go.Sort
set_option linter.unusedVariables false
set_option linter.unusedSimpArgs false
set_option maxRecDepth 100000
set_option maxHeartbeats 4000000 in
theorem step_s (s : SG) (ok : s.OK) (n : Int) (hn0 : -9223372036854775808 ≤ n) (hn1 : n ≤ 9223372036854775807) : Fn prog 12 [.agg s.cells, .p (.v (.int .i64 n))] (stV (stE s n)) [] := by
 obtain ⟨E, hE⟩ : ∃ E, stE s n = E := ⟨_, rfl⟩
 rw [hE]
 unfold stE at hE
 have hCf := sgCheck_s s ok
 have hCp := sgCopyD_s s ok
 obtain ⟨ce, hce⟩ : ∃ e, sgE s = e := ⟨_, rfl⟩
 rw [hce] at hE hCf
 clear hce
 have okr := ok.rest
 have okl := ok.len
 have okc := ok.c
 clear ok
 obtain ⟨lv, rest, ⟨key, port, l⟩, p, err⟩ := s
 dsimp only at hE okr okl okc
 change Fn prog _ [.agg (sgC lv rest.length (rest.flatMap SE.pv) key port l.length (l.flatMap PE.pv) p err)] _ _ at hCf
 change Fn prog _ [.agg (sgC lv rest.length (rest.flatMap SE.pv) key port l.length (l.flatMap PE.pv) p err)] (.agg (sgC lv rest.length (rest.flatMap SE.pv) key port l.length (l.flatMap PE.pv) p err)) _ at hCp
 show Fn prog _ [.agg (sgC lv rest.length (rest.flatMap SE.pv) key port l.length (l.flatMap PE.pv) p err), _] _ _
 refine zat func12 rfl (qE rfl) fun w0 A => zaa<| tx<| wG (zaJ (X := .agg _) 2 rfl) rfl<| wG (zaE 4 zr40 rfl) rfl<| wA rfl<| zab<| zaa<| zaa<| tx<| wN U40 sz40 rfl ?_
 refine cS (fun n => 12 + 1000 * n) (hCf) func33 ?_
 refine wA rfl<| zab<| zaa<| tx<| wM rfl<| wP zbw rfl<| zab<| zaf<| zap _ rfl (fun h => ?_) (fun h => ?_)
 ·have h0 : ce ≠ 0 := by simpa using h
  rw [if_pos h0] at hE
  subst hE
  rw [stV_e h0]
  refine zaa<| tx<| wP (zaP pl40 zr40 rfl rfl) rfl<| wM rfl<| wG (zar (Y := .agg _) sz40 rfl (by first | exact Nat.eq_of_beq_eq_true rfl | (simp only [AV.cells, List.length_map]; first | assumption | omega)) (Nat.eq_of_beq_eq_true rfl)) rfl ?_
  refine wA rfl<| zab<| zag<| zau ?_
  refine fT (fun o => o) (.cellN _ _ _ _ _ _ _ _ _ rfl rfl U40 rfl sz40 (by first | assumption | kernel_rfl) (.tmp _ _ _ _ rfl .nil)) ?_ ?_
  ·exact rfl
  ·exact trivial
 have h0 : ¬ ce ≠ 0 := by simpa using h
 clear h
 rw [if_neg h0] at hE
 refine zae<| zaa<| zaa<| tx<| wF zfT rfl<| wL U4 rfl<| wP zbb rfl<| zab<| zaf<| zap _ rfl (fun h => ?_) (fun h => ?_)
 ·have h1 : lv = false := by simpa using h
  rw [if_pos h1] at hE
  subst hE
  rw [stV_e (by decide)]
  refine zaa<| tx<| wP (zaP pl40 zr40 rfl rfl) rfl<| wG (zar (Y := .agg _) sz40 rfl (by first | exact Nat.eq_of_beq_eq_true rfl | (simp only [AV.cells, List.length_map]; first | assumption | omega)) (Nat.eq_of_beq_eq_true rfl)) rfl ?_
  refine wA rfl<| zab<| zag<| zau ?_
  refine fT (fun o => o) (.cellN _ _ _ _ _ _ _ _ _ rfl rfl U40 rfl sz40 (by first | assumption | kernel_rfl) (.tmp _ _ _ _ rfl .nil)) ?_ ?_
  ·exact rfl
  ·exact trivial
 have h1 : ¬ lv = false := by simpa using h
 clear h
 rw [if_neg h1] at hE
 refine zae<| zaa<| zaa<| tx<| wM rfl<| wP za8 rfl<| zab<| zaf<| zap _ rfl (fun h => ?_) (fun h => ?_)
 ·have h2 : n < 0 := by simpa using h
  rw [if_pos h2] at hE
  subst hE
  rw [stV_e (by decide)]
  refine zaa<| tx<| wP (zaP pl40 zr40 rfl rfl) rfl<| wG (zar (Y := .agg _) sz40 rfl (by first | exact Nat.eq_of_beq_eq_true rfl | (simp only [AV.cells, List.length_map]; first | assumption | omega)) (Nat.eq_of_beq_eq_true rfl)) rfl ?_
  refine wA rfl<| zab<| zag<| zau ?_
  refine fT (fun o => o) (.cellN _ _ _ _ _ _ _ _ _ rfl rfl U40 rfl sz40 (by first | assumption | kernel_rfl) (.tmp _ _ _ _ rfl .nil)) ?_ ?_
  ·exact rfl
  ·exact trivial
 have h2 : ¬ n < 0 := by simpa using h
 clear h
 rw [if_neg h2] at hE
 refine zae<| zaa<| tx<| wN U40 sz40 rfl ?_
 refine cS (fun n => 25 + 1000 * n) (hCp) func34 ?_
 refine wG (zaE 7 zr40 rfl) rfl<| wG (zar (Y := .agg _) sz40 rfl (by first | exact Nat.eq_of_beq_eq_true rfl | (simp only [AV.cells, List.length_map]; first | assumption | omega)) (Nat.eq_of_beq_eq_true rfl)) rfl ?_
 refine zab ?_
 clear hCf hCp
 refine zaa<| zak<| zaM (fun m st => ∃ (n : Int) (d : SG), d.rest.length = m ∧ 0 ≤ n ∧ n ≤ 9223372036854775807 ∧ (∀ x ∈ d.rest, x.OK) ∧ d.rest.length ≤ 1048576 ∧ d.c.OK ∧ (stG n.toNat d, (0 : Int)) = E ∧ st = St.of [(1, .p (.v (.int .i64 n))), (4, .ref 4 0), (7, .ref 7 0)] [(4, .box 40 [.p (.v (.bool false)), .p (.v (.slice none 0 0)), .p (.v (.string ⟨#[]⟩)), .p (.v (.int .i64 0)), .p (.v (.slice none 0 0)), .p (.v (.string ⟨#[]⟩)), .p (.v (.int .i64 0))]), (7, .box 40 (sgC d.lv d.rest.length (d.rest.flatMap SE.pv) d.c.key d.c.port d.c.ps.length (d.c.ps.flatMap PE.pv) d.at_ d.err))]) rest.length ?_ ?_
 ·refine ⟨_, zaK id _ _ ?_ ?_ rfl, n, ⟨lv, rest, ⟨key, port, l⟩, p, err⟩, rfl, qO, hn1, okr, okl, okc, hE, rfl⟩
  ·(repeat (first | exact trivial | (refine ⟨⟨(by first | rfl | (simp; done) | (simp; omega)), rfl⟩, ?_⟩)))
  ·exact ⟨⟨rfl, rfl⟩, ⟨rfl, rfl⟩, trivial⟩
 clear hE okr okl okc h0 h1 h2 hn0 hn1
 clear lv rest key port l p err n ce
 rintro m st ⟨n, ⟨lv, rest, ⟨key, port, l⟩, p, err⟩, hm, hn0, hn1, okr, okl, okc, hE, rfl⟩
 dsimp only at hm okr okl okc ⊢
 subst hm
 refine zaa<| zaa<| tx<| wM rfl<| wP zbv rfl<| wM rfl<| mb2 _ rfl rfl (fun hb => (zaL zci rfl)) (fun _ => trivial) ?_
 refine mb2 _ rfl rfl (fun hb => (zbd U35 rfl (by first | rfl | assumption))) (fun _ => ⟨rfl, trivial⟩) ?_
 refine mb2 _ rfl rfl (fun hb => (za9 U35)) (fun _ => trivial) ?_
 refine mb2 _ rfl rfl (fun hb => zbv) (fun _ => trivial) ?_
 refine wP (zgO (by first | exact id | (simp; done) | grind)) rfl ?_
 refine wM rfl<| mb2 _ rfl rfl (fun hb => (zaL zcB rfl)) (fun _ => trivial) ?_
 refine mb2 _ rfl rfl (fun hb => (zbd U30 rfl (by first | rfl | assumption))) (fun _ => ⟨rfl, trivial⟩) ?_
 refine mb2 _ rfl rfl (fun hb => zaz) (fun _ => trivial) ?_
 refine wP (zgO (by first | exact id | (simp; done) | grind)) rfl ?_
 refine zab<| zaf<| zap _ rfl (fun h => ?_) (fun h => ?_)
 ·have h3 : 0 < n ∧ 0 < rest.length ∧ err = 0 := by
   simp at h
   obtain ⟨⟨q1, q2⟩, q3⟩ := h
   exact ⟨q1, by first | omega | exact List.length_pos_iff.2 q2, q3⟩
  clear h
  obtain ⟨g1, g2, rfl⟩ := h3
  obtain ⟨x, r, rfl⟩ : ∃ x r, rest = x :: r := by
   cases rest with
   | nil => simp at g2
   | cons x r => exact ⟨x, r, rfl⟩
  have okx := okr x qS
  have hC := aone_s ⟨key, port, l⟩ okc p x okx
  have hO := apO_ok ⟨key, port, l⟩ okc p x okx
  have hcl := scloneD_s r (by rw [List.length_cons] at okl; omega)
  have hch : (((x :: r).flatMap SE.pv).drop (0 * 5)).take 5 = SE.pv x := zaW (f := SE.pv) (k := 5) (l := x :: r) (i := 0) (fun _ => rfl) rfl
  have hle : 5 ≤ ((x :: r).flatMap SE.pv).length := by
   have := zaV (f := SE.pv) (k := 5) (l := x :: r) (i := 0) (fun _ => rfl) qS
   omega
  have hsub : (((x :: r).flatMap SE.pv).drop (1 * 5)).take (r.length * 5) = r.flatMap SE.pv := by
   rw [ze2 (f := SE.pv) (k := 5) (fun _ => rfl), List.drop_one, List.tail_cons, List.take_of_length_le (by rw [zaU (f := SE.pv) (k := 5) (fun _ => rfl)]; omega)]
  have hns : n.toNat = (n - 1).toNat + 1 := by omega
  rw [hns] at hE
  have hbad := @stG_bad (n - 1).toNat lv x r ⟨key, port, l⟩ p
  have hgo := @stG_go (n - 1).toNat lv x r ⟨key, port, l⟩ p
  obtain ⟨⟨c3, nx, e⟩, hr⟩ : ∃ y, apO ⟨key, port, l⟩ p x = y := ⟨_, rfl⟩
  rw [hr] at hC hO hbad hgo
  have okr2 : ∀ y ∈ r, y.OK := fun y hy => okr y (by simp [hy])
  have okl2 : r.length ≤ 1048576 := by rw [List.length_cons] at okl; omega
  clear hr okx okc okr
  unfold apR at hC
  obtain ⟨key3, port3, l3⟩ := c3
  obtain ⟨xk, xt, xn, xa, xb⟩ := x
  dsimp only at hC hO hbad hgo
  change Fn prog _ [.agg (cfC key port l.length (l.flatMap PE.pv)), _, .agg [.p (.v (.int .i64 xk)), .p (.v (.string xt)), .p (.v (.int .i64 xn)), .p (.v (.int .u32 xa)), .p (.v (.int .i64 xb))]] (.tup [.agg (cfC key3 port3 l3.length (l3.flatMap PE.pv)), _, _]) _ at hC
  have hN : ((⟨xk, xt, xn, xa, xb⟩ : SE) :: r).length = r.length + 1 := rfl
  generalize hRR : ((⟨xk, xt, xn, xa, xb⟩ : SE) :: r).flatMap SE.pv = RR at *
  generalize hNN : ((⟨xk, xt, xn, xa, xb⟩ : SE) :: r).length = NN at *
  refine zae<| zaa<| zak<| zaa<| zaB 4 qK<| wF zch rfl<| wN U24 sz24 rfl ?_
  refine wF zdk rfl<| wL U9 rfl<| wF zci rfl<| wL U35 rfl<| wP (zaA U35 sz29 qO qO rfl) rfl<| wP (zaR U29 rfl sz29 hle (hch)) rfl<| cS (fun n => 50 + 1000 * n) (hC) func7 ?_
  refine wP (zam (r := .tup _)) rfl<| wP (zal rfl) rfl<| wP (zal rfl) rfl<| wP (zal rfl) rfl<| wG (zaE 8 zr24 rfl) rfl<| wG (zar (Y := .agg _) sz24 rfl (by first | exact Nat.eq_of_beq_eq_true rfl | (simp only [AV.cells, List.length_map]; first | assumption | omega)) (Nat.eq_of_beq_eq_true rfl)) rfl ?_
  refine wA rfl<| wA rfl<| zab ⟨qK, ?_⟩
  refine zaa<| zaa<| tx<| wM rfl<| wP zbw rfl<| zab<| zaf<| zap _ rfl (fun h => ?_) (fun h => ?_)
  ·have h7 : e ≠ 0 := by simpa using h
   rw [hbad h7] at hE
   subst hE
   refine zaa<| tx<| wM rfl<| wF zcB rfl<| wG (zbs (Y := .p _) sz30 rfl (by first | exact Nat.eq_of_beq_eq_true rfl | (simp only [AV.cells, List.length_map]; first | assumption | omega)) (by first | exact Nat.le_of_ble_eq_true rfl | omega | (simp only [AV.cells, List.length_map]; omega)) (by first | (simp only [setR, AV.cells, List.take_succ_cons, List.take_zero, List.drop_succ_cons, List.drop_zero, List.drop_nil, List.take_nil, List.nil_append, List.cons_append, List.append_nil, List.length_cons, List.length_nil, Nat.reduceAdd, Nat.zero_add, Nat.add_zero]; rfl) | rfl)) rfl ?_
   refine zab ?_
   rw [stV_o]
   dsimp only
   rw [hNN, hRR]
   refine zaH<| zaa<| tx<| wN U40 sz40 rfl ?_
   refine wG (zar (Y := .agg _) sz40 rfl (by first | exact Nat.eq_of_beq_eq_true rfl | (simp only [AV.cells, List.length_map]; first | assumption | omega)) (Nat.eq_of_beq_eq_true rfl)) rfl ?_
   refine wA rfl<| zab<| zag ?_
   refine fT (fun o => o) (.cellN _ _ _ _ _ _ _ _ _ rfl rfl U40 rfl sz40 (by first | assumption | kernel_rfl) (.tmp _ _ _ _ rfl .nil)) ?_ ?_
   ·exact rfl
   ·exact trivial
  have h7 : ¬ e ≠ 0 := by simpa using h
  clear h
  rw [hgo h7] at hE
  refine zae<| zaf<| zaB 4 qK<| wN U24 sz24 rfl ?_
  refine wM rfl<| wF zci rfl<| wL U35 rfl<| wP (a_sliceS (L := (some (_, _))) (H := none) U35 sz29 ⟨qO, rfl⟩ rfl qO qO (show NN - 1 = r.length by omega) hsub) rfl ?_
  refine cS (fun n => 63 + 1000 * n) (hcl) func35 ?_
  refine wF zch rfl<| wG (zbs (Y := .agg _) sz24 rfl (by first | exact Nat.eq_of_beq_eq_true rfl | (simp only [AV.cells, List.length_map]; first | assumption | omega)) (by first | exact Nat.le_of_ble_eq_true rfl | omega | (simp only [AV.cells, List.length_map]; omega)) (by first | (simp only [setR, AV.cells, List.take_succ_cons, List.take_zero, List.drop_succ_cons, List.drop_zero, List.drop_nil, List.take_nil, List.nil_append, List.cons_append, List.append_nil, List.length_cons, List.length_nil, Nat.reduceAdd, Nat.zero_add, Nat.add_zero]; rfl) | rfl)) rfl ?_
  refine wF zdk rfl<| wG (zbs (Y := .p _) sz9 rfl (by first | exact Nat.eq_of_beq_eq_true rfl | (simp only [AV.cells, List.length_map]; first | assumption | omega)) (by first | exact Nat.le_of_ble_eq_true rfl | omega | (simp only [AV.cells, List.length_map]; omega)) (by first | (simp only [setR, AV.cells, List.take_succ_cons, List.take_zero, List.drop_succ_cons, List.drop_zero, List.drop_nil, List.take_nil, List.nil_append, List.cons_append, List.append_nil, List.length_cons, List.length_nil, Nat.reduceAdd, Nat.zero_add, Nat.add_zero]; rfl) | rfl)) rfl ?_
  refine wF zci rfl<| wG (zbs (Y := .p _) sz35 rfl (by first | exact Nat.eq_of_beq_eq_true rfl | (simp only [AV.cells, List.length_map]; first | assumption | omega)) (by first | exact Nat.le_of_ble_eq_true rfl | omega | (simp only [AV.cells, List.length_map]; omega)) (by first | (simp only [setR, AV.cells, List.take_succ_cons, List.take_zero, List.drop_succ_cons, List.drop_zero, List.drop_nil, List.take_nil, List.nil_append, List.cons_append, List.append_nil, List.length_cons, List.length_nil, Nat.reduceAdd, Nat.zero_add, Nat.add_zero]; rfl) | rfl)) rfl ?_
  refine zab ⟨qK, ?_⟩
  refine zbf<| zaf<| tx<| wM rfl<| wP (zek (show IntKind.i64.wrap (n - 1) = n - 1 by rw [IntWalk.i64_in _ (by omega)])) rfl ?_
  refine wA rfl<| zab<| zaf<| ⟨r.length, qO, _, zaK id _ _ ?_ ?_ rfl, n - 1, ⟨lv, r, ⟨key3, port3, l3⟩, nx, 0⟩, rfl, qO, qO, okr2, okl2, hO, hE, rfl⟩
  ·(repeat (first | exact trivial | (refine ⟨⟨(by first | rfl | (simp; done) | (simp; omega)), rfl⟩, ?_⟩)))
  ·exact ⟨⟨rfl, rfl⟩, ⟨rfl, rfl⟩, trivial⟩
 have h3 : stG n.toNat ⟨lv, rest, ⟨key, port, l⟩, p, err⟩ = ⟨lv, rest, ⟨key, port, l⟩, p, err⟩ := by
  by_cases q3 : err = 0
  ·by_cases q2 : rest = []
   ·subst q2; exact zgp ..
   ·have q1 : n = 0 := by
     simp at h
     have : 0 < rest.length := List.length_pos_iff.2 q2
     by_cases q : 0 < n
     ·exact absurd q3 (h q (by first | exact q2 | omega))
     ·omega
    subst q1; rfl
  ·exact stG_err _ q3
 clear h
 rw [h3] at hE
 subst hE
 rw [stV_o]
 dsimp only
 refine zaH<| zaa<| tx<| wN U40 sz40 rfl ?_
 refine wG (zar (Y := .agg _) sz40 rfl (by first | exact Nat.eq_of_beq_eq_true rfl | (simp only [AV.cells, List.length_map]; first | assumption | omega)) (Nat.eq_of_beq_eq_true rfl)) rfl ?_
 refine wA rfl<| zab<| zag ?_
 refine fT (fun o => o) (.cellN _ _ _ _ _ _ _ _ _ rfl rfl U40 rfl sz40 (by first | assumption | kernel_rfl) (.tmp _ _ _ _ rfl .nil)) ?_ ?_
 ·exact rfl
 ·exact trivial
end Go.Proofs.YtkdfdcodkeclmaaGreatDoor
