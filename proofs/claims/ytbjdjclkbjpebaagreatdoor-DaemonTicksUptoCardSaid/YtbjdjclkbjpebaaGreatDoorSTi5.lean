/- The reference's DaemonTicked, over data. -/
import Derived.Test.YtbjdjclkbjpebaaGreatDoorSTi3
import Derived.Test.YtbjdjclkbjpebaaGreatDoorSDm5
namespace Go.Proofs.YtbjdjclkbjpebaaGreatDoor
open Tryz
open Go.RowKit Go.Sort
set_option maxHeartbeats 16000000
set_option linter.unusedVariables false
set_option linter.unusedSimpArgs false
set_option maxRecDepth 100000
theorem fnO_same {P : Program} {f : FuncId} {args : List AV} {rds wrs : List (Nat × Slot)} {res : AV} (h : FnO P f args rds wrs res) (k : ∀ p ∈ wrs, p ∈ rds) : FnO P f args rds [] res := by
 intro w0 A S m heap w us hm hu hr
 have := h w0 A S m heap w us hm hu hr
 rwa [zfb fun p hp => hr p (k p hp)] at this
theorem lateR_s (d : DM) (k : KY) (h : 0 ≤ k.born ∧ k.born ≤ 1099511627776) :
  FnO prog 14 [.agg k.cells, .ref 108 0] [(108, .live (.box 32 (moD d (.row 1)))), (2, .un), (3, .un)] [] (.agg (zbX d.now k).cells) :=
 fnO_same (late_s d k h.1 h.2) (by simp)
theorem ticked_s (d : DM) (ok : d.OK) (n : Int) (Z : Nat → List Int) (hZ : dmE d = 0 → ∀ (i : Nat) (s : ST) (p : PE), d.ps[i]? = some s → d.c.ps[i]? = some p → TkH d Z i s p) :
  Fn prog 5 [.agg d.cells, .p (.v (.int .i64 n))] (.tup [.agg (tkD d n).cells, .p (.sl (tkM Z d n).length 3 ((tkM Z d n).flatMap LR.pv)), .p (.v (.int .i64 (tkE d n)))]) [] := by
 have hC := refDm_s d ok
 by_cases h0 : dmE d ≠ 0
 ·exact jaQ
 have h0 : dmE d = 0 := Decidable.not_not.1 h0
 have g := dm_tk h0
 have hnow := g.now
 rw [h0] at hC
 have hE' : tkE d n = if n < 1 ∨ 1000 < n ∨ 1099511627776 < d.now + n then 4 else 0 := if_neg (by rw [h0]; simp)
 by_cases h1 : n < 1
 ·exact jaS
 by_cases h2 : 1000 < n
 ·exact jaN
 by_cases h3 : 1099511627776 < d.now + n
 ·have hE : tkE d n = 4 := by rw [hE', if_pos (.inr (.inr h3))]
  refine zfU ?_ (by rw [hE]; decide)
  rw [hE]
  refine fnI fun w0 A => ?_
  refine G [10] ?_
  refine jcr ?_
  refine cK hC ?_
  refine G [5, 1, 7, 3, 2, 3, 5] ?_
  refine zaa (za3 (show _ = d.now + n from IntWalk.i64_in _ (by omega))) rfl rfl ?_
  refine G [0, 4, 11, 9, 0] ?_
  exact yE
 have hE : tkE d n = 0 := by rw [hE', if_neg (by omega)]
 refine tk_done hE ?_
 have hK := rdmCopy_s d ok
 have hZ := hZ h0
 have hok := ok.psN
 obtain ⟨d', hd⟩ : ∃ d' : DM, d' = { d with now := d.now + n } := ⟨_, rfl⟩
 have hw : d'.now = d.now + n := by rw [hd]
 rw [← hd, ← hw]
 refine fnI fun w0 A => ?_
 refine G [10] ?_
 refine jcr ?_
 refine cK hC ?_
 refine G [5, 1, 7, 3, 2, 3, 5] ?_
 refine zaa (za3 (show _ = d.now + n from IntWalk.i64_in _ (by omega))) rfl rfl ?_
 refine G [0, 3, 6] ?_
 refine jcr ?_
 refine cK hK ?_
 refine jdA (zaX 8 zr32 rfl) ?_
 refine jdA (zaf (Y := .agg (moD d (.row 36))) sz32 rfl rfl (Nat.eq_of_beq_eq_true rfl)) ?_
 refine G [6] ?_
 refine zaa (za3 (show _ = d'.now from by rw [hw]; exact IntWalk.i64_in _ (by omega))) rfl rfl ?_
 refine fA fi32_5 rfl rfl ?_
 refine zab (zb3 (es := moD d' (.row 36)) sz3 rfl rfl (Nat.le_of_ble_eq_true rfl) (by rw [hd]; rfl)) rfl rfl ⟨rfl, trivial⟩ ?_
 refine jct ?_
 refine za8 (zco 9 107 64 3 rfl rfl) ?_
 refine G [2] ?_
 refine jdz a_makeFunc ?_
 refine G [11] ?_
 refine zag (fun m st => ∃ i : Nat, m + i = d.ps.length ∧ st = St.of [(4, .ref 104 0), (8, .ref 108 0), (9, .row 107), (10, .fn 14 [.ref 108 0]), (45, .p (.v (.int .i64 d.ps.length))), (46, .p (.v (.int .i64 i)))] [(1, .row 56 41 d.ps.length ((tkP d'.now d.ps i).flatMap ST.pv)), (104, .box 32 zdmC), (107, .row 64 3 (tkQ d'.now Z d.ps i).length ((tkQ d'.now Z d.ps i).flatMap LR.pv)), (108, .box 32 (moD d' (.row 1)))]) d.ps.length ?_ ?_
 ·refine ⟨_, zah (fun o => bif Nat.beq o 1 then 36 else bif Nat.beq o 104 then 4 else bif Nat.beq o 108 then 8 else o) _ _ ?_ ?_ rfl, 0, by omega, rfl⟩
  ·exact jak
  ·exact jaU
 rintro m st ⟨i, hi, rfl⟩
 refine G [5] ?_
 refine cX (fun h => ?_) fun h => ?_
 ·have hlt : i < d.ps.length := by simp at h; omega
  clear h
  obtain ⟨s, hs⟩ : ∃ s, d.ps[i]? = some s := ⟨d.ps[i], List.getElem?_eq_getElem hlt⟩
  obtain ⟨p, hp⟩ : ∃ p, d.c.ps[i]? = some p := ⟨d.c.ps[i]'(by rw [← g.same]; exact hlt), List.getElem?_eq_getElem (by rw [← g.same]; exact hlt)⟩
  have hat := tkP_at d'.now hs
  have hlen := zh3 d'.now d.ps i
  have hnext := tkP_next d'.now hs
  have hql := zh2 d'.now Z d.ps i
  have hq1 := @tkQ_yes d'.now Z d.ps i s hs
  have hq0 := @tkQ_no d'.now Z d.ps i s hs
  have hbo := g.born i s hs
  have hLa := lateR_s d' s.a (hbo 0)
  have hLb := lateR_s d' s.b (hbo 1)
  have hLc := lateR_s d' s.c (hbo 2)
  have hhr := zg3 (g.hand i s hs)
  obtain ⟨m0, e0, e1, _, hH, _, hW⟩ := (hZ i s p hs hp).both
  have hg6 := g.n6
  have hc6 := g.c6
  obtain ⟨P, hP⟩ : ∃ P, P = tkP d'.now d.ps i := ⟨_, rfl⟩
  rw [← hP] at hat hlen hnext
  rw [← hP]
  have hfl : ∀ x : ST, ((P.set i x).flatMap ST.pv).length = d.ps.length * 41 := fun x => by rw [zaZ (f := ST.pv) (k := 41) (fun _ => rfl), List.length_set, hlen]
  have hfl0 : (P.flatMap ST.pv).length = d.ps.length * 41 := by rw [zaZ (f := ST.pv) (k := 41) (fun _ => rfl), hlen]
  have hPi : i < P.length := by rw [hlen]; exact hlt
  have hxa : ∀ x : ST, (P.set i x)[i]? = some x := fun x => by rw [List.getElem?_set_self hPi]
  have hsl : ((P.flatMap ST.pv).drop (i * 41 + 2)).take 33 = zdP s.a s.b s.c := ziu (f := ST.pv) (k := 41) (fun _ => rfl) hat (q := 2) (n := 33) (by decide)
  have hst : setR (P.flatMap ST.pv) (i * 41 + 2) (zdP (zbX d'.now s.a) (zbX d'.now s.b) (zbX d'.now s.c)) = (P.set i (tkL d'.now s)).flatMap ST.pv := zef (f := ST.pv) (k := 41) (fun _ => rfl) hat (q := 2) (ys := zdP (zbX d'.now s.a) (zbX d'.now s.b) (zbX d'.now s.c)) (show 2 + 33 ≤ 41 by decide) rfl
  have hxL := hxa (tkL d'.now s)
  have hhd : (((P.set i (tkL d'.now s)).flatMap ST.pv).drop (i * 41 + 35)).take 5 = HS.pv s.h := ziu (f := ST.pv) (k := 41) (fun _ => rfl) hxL (q := 35) (n := 5) (by decide)
  have hsz := hfl (tkL d'.now s)
  have hu1 : setR ((P.set i (tkL d'.now s)).flatMap ST.pv) (i * 41 + 35) HS0.pv = (P.set i { tkL d'.now s with h := HS0 }).flatMap ST.pv := by
   exact jbQ
  have hu2 : setR ((P.set i { tkL d'.now s with h := HS0 }).flatMap ST.pv) (i * 41 + 40) [.sl 0 3 []] = (P.set i { tkL d'.now s with h := HS0, q := [] }).flatMap ST.pv := by
   exact jbr
  have hsz2 := hfl { tkL d'.now s with h := HS0 }
  generalize P.flatMap ST.pv = T0 at *
  generalize hT2 : (P.set i { tkL d'.now s with h := HS0, q := [] }).flatMap ST.pv = T2 at *
  generalize (P.set i { tkL d'.now s with h := HS0 }).flatMap ST.pv = T1 at *
  refine G [15] ?_
  refine zab (zb8 U51 rfl sz51 (by omega) (hsl)) rfl rfl ⟨rfl, trivial⟩ ?_
  refine jdA (zaX 12 zr51 rfl) ?_
  refine jdA (zaf (Y := .agg (zc4 s.a s.b s.c)) sz51 rfl rfl (Nat.eq_of_beq_eq_true rfl)) ?_
  refine G [8] ?_
  refine zab (zak U49 rfl sz49 (by first | exact Nat.le_of_ble_eq_true rfl | omega | (simp only [AV.cells, List.length_map]; omega)) (show _ = s.a.cells from rfl)) rfl rfl ⟨rfl, trivial⟩ ?_
  refine zbe (hLa) rfl rfl func14 rfl rfl (by repeat (first | exact trivial | refine ⟨rfl, ?_⟩)) rfl ?_
  refine G [2] ?_
  refine zab (zak U49 rfl sz49 (by first | exact Nat.le_of_ble_eq_true rfl | omega | (simp only [AV.cells, List.length_map]; omega)) (show _ = s.b.cells from rfl)) rfl rfl ⟨rfl, trivial⟩ ?_
  refine zbe (hLb) rfl rfl func14 rfl rfl (by repeat (first | exact trivial | refine ⟨rfl, ?_⟩)) rfl ?_
  refine G [2] ?_
  refine zab (zak U49 rfl sz49 (by first | exact Nat.le_of_ble_eq_true rfl | omega | (simp only [AV.cells, List.length_map]; omega)) (show _ = s.c.cells from rfl)) rfl rfl ⟨rfl, trivial⟩ ?_
  refine zbe (hLc) rfl rfl func14 rfl rfl (by repeat (first | exact trivial | refine ⟨rfl, ?_⟩)) rfl ?_
  refine G [3] ?_
  refine zab (zbB (Y := .agg (zc4 (zbX d'.now s.a) (zbX d'.now s.b) (zbX d'.now s.c))) (ys := zdP (zbX d'.now s.a) (zbX d'.now s.b) (zbX d'.now s.c)) sz51 rfl rfl rfl (by omega) hst) rfl rfl ⟨rfl, trivial⟩ ?_
  refine zac ⟨by kernel_rfl, ?_⟩
  cases hlv : s.h.lv with
  | false =>
   obtain ⟨e2, e3⟩ := tkS_no (now := d'.now) hlv
   have hN : (tkP d'.now d.ps (i + 1)).flatMap ST.pv = (P.set i (tkL d'.now s)).flatMap ST.pv := by rw [← hnext, e2]
   have hQ := hq0 e3
   unfold HS.pv at hhd
   rw [hlv] at hhd
   clear hu1 hu2 hsz2 hst
   generalize (P.set i (tkL d'.now s)).flatMap ST.pv = T at *
   refine G [7] ?_
   refine zab (zb8 U53 rfl sz53 (by omega) (hhd)) rfl rfl ⟨rfl, trivial⟩ ?_
   refine jdA (zaX 13 zr53 rfl) ?_
   refine jdA (zaf (Y := .agg [.p (.v (.bool false)), .p (.v (.int .i64 s.h.mine)), .p (.v (.string s.h.nc)), .p (.v (.int .i64 s.h.b)), .p (.v (.int .i64 s.h.s))]) sz53 rfl rfl (Nat.eq_of_beq_eq_true rfl)) ?_
   refine G [34, 9, 0] ?_
   refine ⟨m - 1, by omega, _, zah id _ _ ?_ ?_ rfl, i + 1, by omega, rfl⟩
   ·(repeat (first | exact trivial | (refine ⟨⟨(by first | rfl | (simp; done) | (simp; omega)), rfl⟩, ?_⟩)))
   ·exact ⟨⟨by rw [hN]; rfl, rfl⟩, ⟨rfl, rfl⟩, ⟨by rw [hQ]; rfl, rfl⟩, ⟨rfl, rfl⟩, trivial⟩
  | true =>
   unfold HS.pv at hhd
   rw [hlv] at hhd
   by_cases hgu : 20 ≤ d'.now - s.h.b
   ·obtain ⟨e2, e3⟩ := tkS_up hlv hgu
    have hN : (tkP d'.now d.ps (i + 1)).flatMap ST.pv = T2 := by rw [← hT2, ← hnext, e2]
    have hQ := hq0 e3
    clear hst
    generalize (P.set i (tkL d'.now s)).flatMap ST.pv = T at *
    refine G [7] ?_
    refine zab (zb8 U53 rfl sz53 (by omega) (hhd)) rfl rfl ⟨rfl, trivial⟩ ?_
    refine jdA (zaX 13 zr53 rfl) ?_
    refine jdA (zaf (Y := .agg [.p (.v (.bool true)), .p (.v (.int .i64 s.h.mine)), .p (.v (.string s.h.nc)), .p (.v (.int .i64 s.h.b)), .p (.v (.int .i64 s.h.s))]) sz53 rfl rfl (Nat.eq_of_beq_eq_true rfl)) ?_
    refine G [10] ?_
    refine zaa (za3 (show _ = s.h.b + 20 from IntWalk.i64_in _ (by omega))) rfl rfl ?_
    refine G [0, 4, 11] ?_
    refine zab (zbB (Y := .agg HS0.cells) (ys := HS0.pv) sz53 rfl rfl rfl (by omega) hu1) rfl rfl ⟨rfl, trivial⟩ ?_
    refine G [7] ?_
    refine zab (zbB (Y := .p (.v (.slice none 0 0))) (ys := [.v (.slice none 0 0)]) sz54 rfl rfl rfl (by omega) rfl) rfl rfl ⟨rfl, trivial⟩ ?_
    refine zac (zbz (zaz (za8 (re_rowNil 1 (i * 41 + 40) 3 rfl hu2) ?_)))
    skip
    refine G [4, 9, 0] ?_
    refine ⟨m - 1, by omega, _, zah id _ _ ?_ ?_ rfl, i + 1, by omega, rfl⟩
    ·(repeat (first | exact trivial | (refine ⟨⟨(by first | rfl | (simp; done) | (simp; omega)), rfl⟩, ?_⟩)))
    ·exact ⟨⟨by rw [hN]; rfl, rfl⟩, ⟨rfl, rfl⟩, ⟨by rw [hQ]; rfl, rfl⟩, ⟨rfl, rfl⟩, trivial⟩
   clear hu1 hu2 hsz2 hst
   by_cases hre : 5 ≤ d'.now - s.h.s
   ·obtain ⟨e2, e3⟩ := tkS_again hlv hgu hre
    have hA : FnO prog 15 [.agg (moD d' (.row 1)), .p (.v (.int .i64 i))] [(1, .live (.row 56 41 d.ps.length ((P.set i (tkL d'.now s)).flatMap ST.pv))), (2, .un), (4, .un), (5, .un), (6, .un), (7, .un), (8, .un), (49, .un)]
      [(1, .live (.row 56 41 d.ps.length ((tkP d'.now d.ps (i + 1)).flatMap ST.pv))), (49, .live (.row 5 1 (Z i).length (bs (Z i))))] (.tup [.agg (moD d' (.row 1)), .agg [.p (.v (.string ⟨#[]⟩)), .p (.v (.string s.ep)), .row 49]]) := by
     have h := helloed_s d' (P.set i (tkL d'.now s)) i _ hxL p (by rw [hd]; exact hp) m0 e0 (by rw [hd]; exact hH) _ e1 hW (by rw [List.length_set, hlen]; exact hok) (by rw [hd]; show d.c.ps.length ≤ 1048576; omega)
     have e4 : (P.set i (tkL d'.now s)).set i { tkL d'.now s with h := { s.h with s := d'.now } } = tkP d'.now d.ps (i + 1) := by rw [List.set_set, ← e2, hnext]
     change FnO _ _ _ _ [(1, moS ((P.set i (tkL d'.now s)).set i { tkL d'.now s with h := { s.h with s := d'.now } })), _] _ at h
     rw [e4] at h
     unfold moS at h
     rw [List.length_set, hlen, zh3] at h
     exact h
    have hL1 : (tkQ d'.now Z d.ps (i + 1)).flatMap LR.pv = (tkQ d'.now Z d.ps i).flatMap LR.pv ++ LR.pv ⟨⟨#[]⟩, s.ep, Z i⟩ := by rw [hq1 e3, List.flatMap_append]; rfl
    have hN1 : (tkQ d'.now Z d.ps (i + 1)).length = (tkQ d'.now Z d.ps i).length + 1 := by rw [hq1 e3, List.length_append]; rfl
    generalize hT1 : (tkP d'.now d.ps (i + 1)).flatMap ST.pv = T1 at *
    generalize (tkQ d'.now Z d.ps i).flatMap LR.pv = L at *
    generalize (tkQ d'.now Z d.ps i).length = N at *
    generalize (P.set i (tkL d'.now s)).flatMap ST.pv = T at *
    refine G [7] ?_
    refine zab (zb8 U53 rfl sz53 (by omega) (hhd)) rfl rfl ⟨rfl, trivial⟩ ?_
    refine jdA (zaX 13 zr53 rfl) ?_
    refine jdA (zaf (Y := .agg [.p (.v (.bool true)), .p (.v (.int .i64 s.h.mine)), .p (.v (.string s.h.nc)), .p (.v (.int .i64 s.h.b)), .p (.v (.int .i64 s.h.s))]) sz53 rfl rfl (Nat.eq_of_beq_eq_true rfl)) ?_
    refine G [10] ?_
    refine zaa (za3 (show _ = s.h.b + 20 from IntWalk.i64_in _ (by omega))) rfl rfl ?_
    refine G [0, 3, 12] ?_
    refine zaa (za3 (show _ = s.h.s + 5 from IntWalk.i64_in _ (by omega))) rfl rfl ?_
    refine G [0, 4, 11] ?_
    refine zab (zak U32 rfl sz32 (by first | exact Nat.le_of_ble_eq_true rfl | omega | (simp only [AV.cells, List.length_map]; omega)) (show _ = moD d' (.row 1) from rfl)) rfl rfl ⟨rfl, trivial⟩ ?_
    refine mP rfl rfl ?_
    refine zbe (hA) rfl rfl func15 rfl rfl (by repeat (first | exact trivial | refine ⟨rfl, ?_⟩)) rfl ?_
    refine G [3] ?_
    refine jdA (zaf (Y := .agg (moD d' (.row 1))) sz32 rfl rfl (Nat.eq_of_beq_eq_true rfl)) ?_
    refine jdA (zaf (Y := .agg [.p (.v (.string ⟨#[]⟩)), .p (.v (.string s.ep)), .row 49]) sz64 rfl rfl (Nat.eq_of_beq_eq_true rfl)) ?_
    refine zac (zfA (zc7 (cs := bs (Z i)) 49 rfl) ?_)
    skip
    refine G [2] ?_
    refine zab (zak U64 rfl sz64 (by first | exact Nat.le_of_ble_eq_true rfl | omega | (simp only [AV.cells, List.length_map]; omega)) (show _ = LR.cells ⟨⟨#[]⟩, s.ep, Z i⟩ from rfl)) rfl rfl ⟨rfl, trivial⟩ ?_
    refine zab (xs := [.agg (LR.cells ⟨⟨#[]⟩, s.ep, Z i⟩)]) (zae (es := (LR.cells ⟨⟨#[]⟩, s.ep, Z i⟩)) (cs := (LR.pv ⟨⟨#[]⟩, s.ep, Z i⟩)) 119 underlying33 sz64 zc64 (Nat.le_of_ble_eq_true rfl) (Nat.le_of_ble_eq_true rfl) rfl (by kernel_rfl) (by kernel_rfl) (by kernel_rfl) (Nat.le_of_ble_eq_true rfl)) (by first | rfl | kernel_rfl) rfl ⟨rfl, trivial⟩ ?_
    refine zab (zal 120 underlying33 eo64 (zax) (by simp only [maxLen]; omega) (by omega) rfl rfl) rfl rfl ⟨rfl, rfl, rfl, trivial⟩ ?_
    refine G [6, 9, 0] ?_
    refine ⟨m - 1, by omega, _, zah (fun o => bif Nat.beq o 107 then 120 else o) _ _ ?_ ?_ rfl, i + 1, by omega, rfl⟩
    ·(repeat (first | exact trivial | (refine ⟨⟨(by first | rfl | (simp; done) | (simp; omega)), rfl⟩, ?_⟩)))
    ·exact ⟨⟨by rw [hT1]; rfl, rfl⟩, ⟨rfl, rfl⟩, ⟨by rw [hL1, hN1]; rfl, rfl⟩, ⟨rfl, rfl⟩, trivial⟩
   obtain ⟨e2, e3⟩ := tkS_wait hlv hgu hre
   have hN : (tkP d'.now d.ps (i + 1)).flatMap ST.pv = (P.set i (tkL d'.now s)).flatMap ST.pv := by rw [← hnext, e2]
   have hQ := hq0 e3
   generalize (P.set i (tkL d'.now s)).flatMap ST.pv = T at *
   refine G [7] ?_
   refine zab (zb8 U53 rfl sz53 (by omega) (hhd)) rfl rfl ⟨rfl, trivial⟩ ?_
   refine jdA (zaX 13 zr53 rfl) ?_
   refine jdA (zaf (Y := .agg [.p (.v (.bool true)), .p (.v (.int .i64 s.h.mine)), .p (.v (.string s.h.nc)), .p (.v (.int .i64 s.h.b)), .p (.v (.int .i64 s.h.s))]) sz53 rfl rfl (Nat.eq_of_beq_eq_true rfl)) ?_
   refine G [10] ?_
   refine zaa (za3 (show _ = s.h.b + 20 from IntWalk.i64_in _ (by omega))) rfl rfl ?_
   refine G [0, 3, 12] ?_
   refine zaa (za3 (show _ = s.h.s + 5 from IntWalk.i64_in _ (by omega))) rfl rfl ?_
   refine G [0, 3, 8, 9, 0] ?_
   refine ⟨m - 1, by omega, _, zah id _ _ ?_ ?_ rfl, i + 1, by omega, rfl⟩
   ·(repeat (first | exact trivial | (refine ⟨⟨(by first | rfl | (simp; done) | (simp; omega)), rfl⟩, ?_⟩)))
   ·exact ⟨⟨by rw [hN]; rfl, rfl⟩, ⟨rfl, rfl⟩, ⟨by rw [hQ]; rfl, rfl⟩, ⟨rfl, rfl⟩, trivial⟩
 have hge : i = d.ps.length := by simp at h; omega
 clear h
 subst hge
 rw [tkP_all]
 refine G [3] ?_
 refine zab (zak U32 rfl sz32 (by first | exact Nat.le_of_ble_eq_true rfl | omega | (simp only [AV.cells, List.length_map]; omega)) (show _ = moD d' (.row 1) from rfl)) rfl rfl ⟨rfl, trivial⟩ ?_
 refine jcw ?_
 refine jdA (zaf (Y := .agg (moD d' (.row 1))) sz32 rfl rfl (Nat.eq_of_beq_eq_true rfl)) ?_
 refine G [4, 9, 0] ?_
 refine yT (fun o => bif Nat.beq o 0 then 1 else 107) ?_ ?_
 ·exact rfl
 ·exact ⟨⟨rfl, rfl⟩, ⟨rfl, rfl⟩, trivial⟩
theorem zcQ {now : Int} {k : KY} (h : k.OK) : (zbX now k).OK := by
 unfold zbX
 split
 ·exact KY0.ok
 ·exact h
theorem tkS_ok {now : Int} {s : ST} (h : s.OK ∧ s.B) : (tkS now s).OK ∧ (tkS now s).B := by
 obtain ⟨⟨e, a, b, c, q, qx⟩, q2, qb⟩ := h
 have hL : (tkL now s).OK ∧ (tkL now s).B := ⟨⟨e, zcQ a, zcQ b, zcQ c, q, qx⟩, q2, qb⟩
 unfold tkS
 split
 ·split
  ·exact ⟨⟨e, zcQ a, zcQ b, zcQ c, by simp, fun p h => by cases h⟩, by simp, fun p h => by cases h⟩
  ·split
   ·exact ⟨⟨e, zcQ a, zcQ b, zcQ c, q, qx⟩, q2, qb⟩
   ·exact hL
 ·exact hL
theorem cf0_ok : CF.OK ⟨⟨#[]⟩, 0, []⟩ := ⟨by simp, fun p h => by cases h⟩
theorem dm0_ok : dm0.OK := ⟨cf0_ok, (fun x h => by cases h), by simp [dm0], (fun x h => by cases h), by simp [dm0], ⟨(fun x h => by cases h), by simp [dm0], cf0_ok, by decide, by decide⟩⟩
theorem tkD_ok {d : DM} (ok : d.OK) (n : Int) : (tkD d n).OK := by
 unfold tkD
 split
 ·exact ⟨ok.c, ok.tree, ok.treeN, (fun s hs => by
   obtain ⟨s0, h1, rfl⟩ := List.mem_map.1 hs
   exact tkS_ok (ok.ps s0 h1)), (by show (d.ps.map _).length ≤ _; rw [List.length_map]; exact ok.psN), ok.sg⟩
 ·exact dm0_ok
theorem tkM_few {d : DM} (ok : d.OK) (n : Int) (Z : Nat → List Int) : (tkM Z d n).length ≤ 4611686018427387904 := by
 unfold tkM
 split
 ·have := zh2 (d.now + n) Z d.ps d.ps.length
  have := ok.psN
  omega
 ·simp
theorem tkM_B {d : DM} {n : Int} {Z : Nat → List Int} (hZ : ∀ i, isB (Z i)) : ∀ p ∈ tkM Z d n, isB p.xs := by
 unfold tkM
 split
 ·exact tkQ_B hZ _
 ·intro p h; cases h
theorem law_DaemonTicks (x0 : List PV) (ty0 : Ty prog 10 32 x0) (hb0 : PV.bdL 1048576 x0) (x1 : List PV) (ty1 : Ty prog 10 3 x1) (hb1 : PV.bdL 1048576 x1) :
  Fn prog 3 [argAV true x0, argAV false x1] (.p (.v (.bool true))) [] := by
 obtain ⟨d, od, rfl⟩ := DM.of_ty ty0 hb0
 obtain ⟨n, rfl, hn⟩ := zbm U3 ty1
 have hz : ∃ Z : Nat → List Int, (∀ i, isB (Z i)) ∧ (dmE d = 0 → ∀ (i : Nat) (s : ST) (p : PE), d.ps[i]? = some s → d.c.ps[i]? = some p → TkH d Z i s p) := by
  by_cases h0 : dmE d = 0
  ·obtain ⟨Z, h1, h2⟩ := tk_hello (dm_tk h0)
   exact ⟨Z, h1, fun _ => h2⟩
  ·exact ⟨fun _ => [], (fun i x h => by cases h), fun h => absurd h h0⟩
 obtain ⟨Z, hB, hZ⟩ := hz
 have p1 := tick_s d od n Z hZ
 have q1 := ticked_s d od n Z hZ
 have s1 := sameDaemon_d (tkD d n) (tkD d n) (tkD_ok od n) (tkD_ok od n)
 have s2 := sameLetters_d (tkM Z d n) (tkM Z d n) (tkM_few od n Z) (tkM_few od n Z) (tkM_B hB) (tkM_B hB)
 rw [dmB_self] at s1
 rw [zgn] at s2
 generalize tkE d n = e at *
 generalize (tkM Z d n).flatMap LR.pv = L at *
 generalize (tkM Z d n).length = N at *
 change Fn prog _ [.agg d.cells, .p (.v (.int .i64 n))] _ _
 obtain ⟨k1, p1', P1, T1, S1, lv1, R1, sk1, sp1, Q1, a1, e1, g1, w1, n1, hx1⟩ : ∃ k p P T S lv R sk sp Q a e g w l, (tkD d n).cells = dmC k p P T S lv R sk sp Q a e g w l := ⟨_, _, _, _, _, _, _, _, _, _, _, _, _, _, _, rfl⟩
 obtain ⟨k2, p2', P2, T2, S2, lv2, R2, sk2, sp2, Q2, a2, e2, g2, w2, n2, hx2⟩ : ∃ k p P T S lv R sk sp Q a e g w n, d.cells = dmC k p P T S lv R sk sp Q a e g w n := ⟨_, _, _, _, _, _, _, _, _, _, _, _, _, _, _, rfl⟩
 rw [hx1] at p1 q1 s1
 rw [hx2] at p1 q1 ⊢
 clear hx1 hx2 od hb0 ty0 hZ hB hb1 ty1 hn
 refine fnI fun w0 A => ?_
 refine G [9] ?_
 refine cK p1 ?_
 refine G [13] ?_
 refine cK q1 ?_
 refine G [13] ?_
 refine cK s1 ?_
 refine G [3] ?_
 refine cK s2 ?_
 refine G [4, 1, 4, 9, 0] ?_
 exact yE
end Go.Proofs.YtbjdjclkbjpebaaGreatDoor
