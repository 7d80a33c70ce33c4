/- The reference's StageStepped, over data. -/
import Derived.Test.YtkdfdcodkeclmaaGreatDoorSSv1
namespace Go.Proofs.YtkdfdcodkeclmaaGreatDoor
open Tryz
open Go.RowKit Go.Sort
set_option linter.unusedVariables false
set_option linter.unusedSimpArgs false
set_option maxRecDepth 100000
set_option maxHeartbeats 4000000 in
theorem refStep_s (s : SG) (ok : s.OK) (n : Int) (hn0 : -9223372036854775808 ≤ n) (hn1 : n ≤ 9223372036854775807) : Fn prog 14 [.agg s.cells, .p (.v (.int .i64 n))] (stV (stE s n)) [] := by
 obtain ⟨E, hE⟩ : ∃ E, stE s n = E := ⟨_, rfl⟩
 rw [hE]
 unfold stE at hE
 have hCf := refStage_s s ok
 have hCp := refSgCopyD_s s ok
 obtain ⟨ce, hce⟩ : ∃ e, sgE s = e := ⟨_, rfl⟩
 rw [hce] at hE hCf
 clear hce
 have okr := ok.rest
 have okl := ok.len
 have okc := ok.c
 clear ok
 obtain ⟨lv, rest, ⟨key, port, l⟩, p, err⟩ := s
 dsimp only at hE okr okl okc
 change Fn prog _ [.agg (sgC lv rest.length (rest.flatMap SE.pv) key port l.length (l.flatMap PE.pv) p err)] _ _ at hCf
 change Fn prog _ [.agg (sgC lv rest.length (rest.flatMap SE.pv) key port l.length (l.flatMap PE.pv) p err)] (.agg (sgC lv rest.length (rest.flatMap SE.pv) key port l.length (l.flatMap PE.pv) p err)) _ at hCp
 show Fn prog _ [.agg (sgC lv rest.length (rest.flatMap SE.pv) key port l.length (l.flatMap PE.pv) p err), _] _ _
 refine zat func14 rfl (qE rfl) fun w0 A => zaa<| tx<| wG (zaJ (X := .agg _) 2 rfl) rfl<| wG (zaE 4 zr40 rfl) rfl<| wA rfl<| zab<| zaa<| zaa<| tx<| wN U40 sz40 rfl ?_
 refine cS (fun n => 13 + 1000 * n) (hCf) func36 ?_
 refine wA rfl<| zab<| zaa<| tx<| wM rfl<| wP zbw rfl<| zab<| zaf<| zap _ rfl (fun h => ?_) (fun h => ?_)
 ·have h0 : ce ≠ 0 := by simpa using h
  rw [if_pos h0] at hE
  subst hE
  rw [stV_e h0]
  refine zaa<| tx<| wP (zaP pl40 zr40 rfl rfl) rfl<| wM rfl<| wG (zar (Y := .agg _) sz40 rfl (by first | exact Nat.eq_of_beq_eq_true rfl | (simp only [AV.cells, List.length_map]; first | assumption | omega)) (Nat.eq_of_beq_eq_true rfl)) rfl ?_
  refine wA rfl<| zab<| zag<| zau ?_
  refine fT (fun o => o) (.cellN _ _ _ _ _ _ _ _ _ rfl rfl U40 rfl sz40 (by first | assumption | kernel_rfl) (.tmp _ _ _ _ rfl .nil)) ?_ ?_
  ·exact rfl
  ·exact trivial
 have h0 : ¬ ce ≠ 0 := by simpa using h
 clear h
 rw [if_neg h0] at hE
 refine zae<| zaa<| zaa<| tx<| wF zfT rfl<| wL U4 rfl<| wP zbb rfl<| zab<| zaf<| zap _ rfl (fun h => ?_) (fun h => ?_)
 ·have h1 : lv = false := by simpa using h
  rw [if_pos h1] at hE
  subst hE
  rw [stV_e (by decide)]
  refine zaa<| tx<| wP (zaP pl40 zr40 rfl rfl) rfl<| wG (zar (Y := .agg _) sz40 rfl (by first | exact Nat.eq_of_beq_eq_true rfl | (simp only [AV.cells, List.length_map]; first | assumption | omega)) (Nat.eq_of_beq_eq_true rfl)) rfl ?_
  refine wA rfl<| zab<| zag<| zau ?_
  refine fT (fun o => o) (.cellN _ _ _ _ _ _ _ _ _ rfl rfl U40 rfl sz40 (by first | assumption | kernel_rfl) (.tmp _ _ _ _ rfl .nil)) ?_ ?_
  ·exact rfl
  ·exact trivial
 have h1 : ¬ lv = false := by simpa using h
 clear h
 rw [if_neg h1] at hE
 refine zae<| zaa<| zaa<| tx<| wM rfl<| wP za8 rfl<| zab<| zaf<| zap _ rfl (fun h => ?_) (fun h => ?_)
 ·have h2 : n < 0 := by simpa using h
  rw [if_pos h2] at hE
  subst hE
  rw [stV_e (by decide)]
  refine zaa<| tx<| wP (zaP pl40 zr40 rfl rfl) rfl<| wG (zar (Y := .agg _) sz40 rfl (by first | exact Nat.eq_of_beq_eq_true rfl | (simp only [AV.cells, List.length_map]; first | assumption | omega)) (Nat.eq_of_beq_eq_true rfl)) rfl ?_
  refine wA rfl<| zab<| zag<| zau ?_
  refine fT (fun o => o) (.cellN _ _ _ _ _ _ _ _ _ rfl rfl U40 rfl sz40 (by first | assumption | kernel_rfl) (.tmp _ _ _ _ rfl .nil)) ?_ ?_
  ·exact rfl
  ·exact trivial
 have h2 : ¬ n < 0 := by simpa using h
 clear h
 rw [if_neg h2] at hE
 refine zae<| zaa<| tx<| wN U40 sz40 rfl ?_
 refine cS (fun n => 26 + 1000 * n) (hCp) func37 ?_
 refine wG (zaE 7 zr40 rfl) rfl<| wG (zar (Y := .agg _) sz40 rfl (by first | exact Nat.eq_of_beq_eq_true rfl | (simp only [AV.cells, List.length_map]; first | assumption | omega)) (Nat.eq_of_beq_eq_true rfl)) rfl ?_
 refine zab<| zaa<| zaa<| tx<| wA rfl<| zab ?_
 clear hCf hCp
 obtain ⟨O, hO⟩ : ∃ O, sgC lv rest.length (rest.flatMap SE.pv) key port l.length (l.flatMap PE.pv) p err = O := ⟨_, rfl⟩
 refine zak<| zaM (fun m st => ∃ (i : Nat) (d : SG), m + i = rest.length ∧ (d.err = 0 → d.rest = rest.drop i) ∧ d.c.OK ∧ (stG (n.toNat - i) d, (0 : Int)) = E ∧ st = St.of [(1, .p (.v (.int .i64 n))), (2, .ref 2 0), (4, .ref 4 0), (7, .ref 7 0), (8, .p (.v (.int .i64 i)))] [(2, .box 40 (sgC lv rest.length (rest.flatMap SE.pv) key port l.length (l.flatMap PE.pv) p err)), (4, .box 40 [.p (.v (.bool false)), .p (.v (.slice none 0 0)), .p (.v (.string ⟨#[]⟩)), .p (.v (.int .i64 0)), .p (.v (.slice none 0 0)), .p (.v (.string ⟨#[]⟩)), .p (.v (.int .i64 0))]), (7, .box 40 (sgC d.lv d.rest.length (d.rest.flatMap SE.pv) d.c.key d.c.port d.c.ps.length (d.c.ps.flatMap PE.pv) d.at_ d.err))]) rest.length ?_ ?_
 ·refine ⟨_, zaK id _ _ ?_ ?_ rfl, 0, ⟨lv, rest, ⟨key, port, l⟩, p, err⟩, rfl, fun _ => rfl, okc, hE, rfl⟩
  ·(repeat (first | exact trivial | (refine ⟨⟨(by first | rfl | (simp; done) | (simp; omega)), rfl⟩, ?_⟩)))
  ·exact ⟨⟨rfl, rfl⟩, ⟨rfl, rfl⟩, ⟨rfl, rfl⟩, trivial⟩
 clear hE okc h0 h1 hO
 rintro m st ⟨i, ⟨lv2, rest2, ⟨key2, port2, l2⟩, p2, err2⟩, hm, hrs, okc, hE, rfl⟩
 dsimp only at hrs okc ⊢
 refine zaa<| zaa<| tx<| wM rfl<| wM rfl<| wP za8 rfl<| wM rfl<| mb2 _ rfl rfl (fun hb => (zam (r := .p _))) (fun _ => trivial) ?_
 refine mb2 _ rfl rfl (fun hb => (zaL zci rfl)) (fun _ => trivial) ?_
 refine mb2 _ rfl rfl (fun hb => (zbd U35 rfl (by first | rfl | assumption))) (fun _ => ⟨rfl, trivial⟩) ?_
 refine mb2 _ rfl rfl (fun hb => (za9 U35)) (fun _ => trivial) ?_
 refine mb2 _ rfl rfl (fun hb => za8) (fun _ => trivial) ?_
 refine wP (zgO (by first | exact id | (simp; done) | grind)) rfl ?_
 refine wM rfl<| mb2 _ rfl rfl (fun hb => (zaL zcB rfl)) (fun _ => trivial) ?_
 refine mb2 _ rfl rfl (fun hb => (zbd U30 rfl (by first | rfl | assumption))) (fun _ => ⟨rfl, trivial⟩) ?_
 refine mb2 _ rfl rfl (fun hb => zaz) (fun _ => trivial) ?_
 refine wP (zgO (by first | exact id | (simp; done) | grind)) rfl ?_
 refine zab<| zaf<| zap _ rfl (fun h => ?_) (fun h => ?_)
 ·have h3 : (i : Int) < n ∧ i < rest.length ∧ err2 = 0 := by
   simp at h
   obtain ⟨⟨q1, q2⟩, q3⟩ := h
   exact ⟨q1, qO, q3⟩
  clear h
  obtain ⟨g1, g2, rfl⟩ := h3
  obtain rfl := hrs rfl
  obtain ⟨x, hx⟩ : ∃ x, rest[i]? = some x := ⟨rest[i], List.getElem?_eq_getElem g2⟩
  have hdx : rest.drop i = x :: rest.drop (i + 1) := by
   obtain ⟨_, rfl⟩ := List.getElem?_eq_some_iff.1 hx
   exact List.drop_eq_getElem_cons g2
  have hch := zaW (f := SE.pv) (k := 5) (fun _ => rfl) hx
  have hle := zaV (f := SE.pv) (k := 5) (fun _ => rfl) g2
  have okx := okr x (List.mem_of_getElem? hx)
  have hC := refOne_s ⟨key2, port2, l2⟩ okc p2 x okx
  have hO := apO_ok ⟨key2, port2, l2⟩ okc p2 x okx
  have hns : n.toNat - i = (n.toNat - (i + 1)) + 1 := by omega
  have hbad := @stG_bad (n.toNat - (i + 1)) lv2 x (rest.drop (i + 1)) ⟨key2, port2, l2⟩ p2
  have hgo := @stG_go (n.toNat - (i + 1)) lv2 x (rest.drop (i + 1)) ⟨key2, port2, l2⟩ p2
  rw [hns] at hE
  rw [← hdx] at hbad hgo
  obtain ⟨⟨c3, nx, e⟩, hr⟩ : ∃ y, apO ⟨key2, port2, l2⟩ p2 x = y := ⟨_, rfl⟩
  rw [hr] at hC hO hbad hgo
  clear hr okx hdx
  unfold apR at hC
  obtain ⟨key3, port3, l3⟩ := c3
  obtain ⟨xk, xt, xn, xa, xb⟩ := x
  dsimp only at hC hO hbad hgo
  change Fn prog _ [.agg (cfC key2 port2 l2.length (l2.flatMap PE.pv)), _, .agg [.p (.v (.int .i64 xk)), .p (.v (.string xt)), .p (.v (.int .i64 xn)), .p (.v (.int .u32 xa)), .p (.v (.int .i64 xb))]] (.tup [.agg (cfC key3 port3 l3.length (l3.flatMap PE.pv)), _, _]) _ at hC
  have hle2 : 5 ≤ ((rest.flatMap SE.pv).drop (i * 5)).length := by rw [List.length_drop]; omega
  have hsub : ((rest.flatMap SE.pv).drop (Int.toNat ((i + 1 : Nat) : Int) * 5)).take ((rest.drop (i + 1)).length * 5) = (rest.drop (i + 1)).flatMap SE.pv := by
   rw [Int.toNat_natCast, ze2 (f := SE.pv) (k := 5) (fun _ => rfl), List.take_of_length_le (by rw [zaU (f := SE.pv) (k := 5) (fun _ => rfl)]; omega)]
  have hND : (rest.drop (i + 1)).length = rest.length - (i + 1) := List.length_drop ..
  generalize hRR : rest.flatMap SE.pv = RR at *
  generalize hR1 : (rest.drop i).flatMap SE.pv = R1 at *
  generalize hN1 : (rest.drop i).length = N1 at *
  generalize hR2 : (rest.drop (i + 1)).flatMap SE.pv = R2 at *
  generalize hN2 : (rest.drop (i + 1)).length = N2 at *
  generalize hNN : rest.length = NN at *
  refine zae<| zaa<| zak<| zaa<| zaB 4 qK<| wF zch rfl<| wN U24 sz24 rfl ?_
  refine wF zdk rfl<| wL U9 rfl<| wF zci rfl<| wL U35 rfl<| wM rfl<| wP (zaA U35 sz29 qO qO rfl) rfl<| wP (zaR U29 rfl sz29 hle2 (hch)) rfl<| cS (fun n => 54 + 1000 * n) (hC) func8 ?_
  refine wP (zam (r := .tup _)) rfl<| wP (zal rfl) rfl<| wP (zal rfl) rfl<| wP (zal rfl) rfl<| wG (zaE 9 zr24 rfl) rfl<| wG (zar (Y := .agg _) sz24 rfl (by first | exact Nat.eq_of_beq_eq_true rfl | (simp only [AV.cells, List.length_map]; first | assumption | omega)) (Nat.eq_of_beq_eq_true rfl)) rfl ?_
  refine wA rfl<| wA rfl<| zab ⟨qK, ?_⟩
  refine zaa<| tx<| wM rfl<| wP zbw rfl<| zab<| zaf<| zap _ rfl (fun h => ?_) (fun h => ?_)
  ·have h7 : e ≠ 0 := by simpa using h
   clear h
   rw [hbad h7] at hE
   skip
   refine tx<| wM rfl<| wF zcB rfl<| wG (zbs (Y := .p _) sz30 rfl (by first | exact Nat.eq_of_beq_eq_true rfl | (simp only [AV.cells, List.length_map]; first | assumption | omega)) (by first | exact Nat.le_of_ble_eq_true rfl | omega | (simp only [AV.cells, List.length_map]; omega)) (by first | (simp only [setR, AV.cells, List.take_succ_cons, List.take_zero, List.drop_succ_cons, List.drop_zero, List.drop_nil, List.take_nil, List.nil_append, List.cons_append, List.append_nil, List.length_cons, List.length_nil, Nat.reduceAdd, Nat.zero_add, Nat.add_zero]; rfl) | rfl)) rfl ?_
   refine zab<| zbf<| zaf<| tx<| wM rfl<| wP (za4 (by first | exact IntWalk.i64_in _ (by omega) | rfl)) rfl ?_
   refine wA rfl<| zab<| zaf<| ⟨m - 1, qO, _, zaK id _ _ ?_ ?_ rfl, i + 1, ⟨lv2, rest.drop i, ⟨key2, port2, l2⟩, p2, e⟩, qO, fun q => absurd q h7, okc, ?_, rfl⟩
   ·subst hR1 hN1
    (repeat (first | exact trivial | (refine ⟨⟨(by first | rfl | (simp; done) | (simp; omega)), rfl⟩, ?_⟩)))
   ·subst hR1 hN1
    exact ⟨⟨rfl, rfl⟩, ⟨rfl, rfl⟩, ⟨rfl, rfl⟩, trivial⟩
   ·rw [stG_err _ h7]; exact hE
  have h7 : ¬ e ≠ 0 := by simpa using h
  clear h
  rw [hgo h7] at hE
  refine zaa<| tx<| wN U24 sz24 rfl ?_
  refine wF zch rfl<| wG (zbs (Y := .agg _) sz24 rfl (by first | exact Nat.eq_of_beq_eq_true rfl | (simp only [AV.cells, List.length_map]; first | assumption | omega)) (by first | exact Nat.le_of_ble_eq_true rfl | omega | (simp only [AV.cells, List.length_map]; omega)) (by first | (simp only [setR, AV.cells, List.take_succ_cons, List.take_zero, List.drop_succ_cons, List.drop_zero, List.drop_nil, List.take_nil, List.nil_append, List.cons_append, List.append_nil, List.length_cons, List.length_nil, Nat.reduceAdd, Nat.zero_add, Nat.add_zero]; rfl) | rfl)) rfl ?_
  refine zab<| zaa<| tx<| wM rfl<| wF zdk rfl<| wG (zbs (Y := .p _) sz9 rfl (by first | exact Nat.eq_of_beq_eq_true rfl | (simp only [AV.cells, List.length_map]; first | assumption | omega)) (by first | exact Nat.le_of_ble_eq_true rfl | omega | (simp only [AV.cells, List.length_map]; omega)) (by first | (simp only [setR, AV.cells, List.take_succ_cons, List.take_zero, List.drop_succ_cons, List.drop_zero, List.drop_nil, List.take_nil, List.nil_append, List.cons_append, List.append_nil, List.length_cons, List.length_nil, Nat.reduceAdd, Nat.zero_add, Nat.add_zero]; rfl) | rfl)) rfl ?_
  refine zab<| zaf<| tx<| wF zci rfl<| wL U35 rfl<| wM rfl<| wP (za4 (show IntKind.i64.wrap ((i : Int) + 1) = ((i + 1 : Nat) : Int) by rw [IntWalk.i64_in _ (by omega)]; omega)) rfl ?_
  refine wP (a_sliceS (L := (some (_, _))) (H := none) U35 sz29 ⟨by omega, rfl⟩ rfl (by omega) (by omega) (show NN - Int.toNat ((i + 1 : Nat) : Int) = N2 by rw [Int.toNat_natCast]; omega) hsub) rfl ?_
  refine wG (zel 71 U35 eo29 (zfx) (by simp only [maxLen]; omega) (by omega)) rfl ?_
  refine wF zci rfl<| wG (zbs (Y := .row _) sz35 rfl (by first | exact Nat.eq_of_beq_eq_true rfl | (simp only [AV.cells, List.length_map]; first | assumption | omega)) (by first | exact Nat.le_of_ble_eq_true rfl | omega | (simp only [AV.cells, List.length_map]; omega)) (by first | (simp only [setR, AV.cells, List.take_succ_cons, List.take_zero, List.drop_succ_cons, List.drop_zero, List.drop_nil, List.take_nil, List.nil_append, List.cons_append, List.append_nil, List.length_cons, List.length_nil, Nat.reduceAdd, Nat.zero_add, Nat.add_zero]; rfl) | rfl)) rfl ?_
  refine zab<| zbE (zgt (cs := R2) 71 rfl) ?_
  skip
  refine tx<| wM rfl<| wP (za4 (by first | exact IntWalk.i64_in _ (by omega) | rfl)) rfl ?_
  refine wA rfl<| zab<| zaf<| ⟨m - 1, qO, _, zaK id _ _ ?_ ?_ rfl, i + 1, ⟨lv2, rest.drop (i + 1), ⟨key3, port3, l3⟩, nx, 0⟩, qO, fun _ => rfl, hO, hE, rfl⟩
  ·subst hR2 hN2
   (repeat (first | exact trivial | (refine ⟨⟨(by first | rfl | (simp; done) | (simp; omega)), rfl⟩, ?_⟩)))
  ·subst hR2 hN2
   exact ⟨⟨rfl, rfl⟩, ⟨rfl, rfl⟩, ⟨rfl, rfl⟩, trivial⟩
 have h3 : stG (n.toNat - i) ⟨lv2, rest2, ⟨key2, port2, l2⟩, p2, err2⟩ = ⟨lv2, rest2, ⟨key2, port2, l2⟩, p2, err2⟩ := by
  by_cases q3 : err2 = 0
  ·obtain rfl := hrs q3
   by_cases q2 : i < rest.length
   ·have q1 : n.toNat - i = 0 := by
     simp at h
     by_cases q : (i : Int) < n
     ·exact absurd q3 (h q qO)
     ·omega
    rw [q1]; rfl
   ·rw [List.drop_of_length_le (by omega)]; exact zgp ..
  ·exact stG_err _ q3
 clear h
 rw [h3] at hE
 subst hE
 rw [stV_o]
 dsimp only
 refine zaH<| zaa<| tx<| wN U40 sz40 rfl ?_
 refine wG (zar (Y := .agg _) sz40 rfl (by first | exact Nat.eq_of_beq_eq_true rfl | (simp only [AV.cells, List.length_map]; first | assumption | omega)) (Nat.eq_of_beq_eq_true rfl)) rfl ?_
 refine wA rfl<| zab<| zag ?_
 refine fT (fun o => o) (.cellN _ _ _ _ _ _ _ _ _ rfl rfl U40 rfl sz40 (by first | assumption | kernel_rfl) (.tmp _ _ _ _ rfl .nil)) ?_ ?_
 ·exact rfl
 ·exact trivial
end Go.Proofs.YtkdfdcodkeclmaaGreatDoor
