/- The law's sameConf: a configuration is the same as itself; over data. -/
import Derived.Test.YtkdfdcodkeclmaaGreatDoorSCf2
import Derived.Test.YtkdfdcodkeclmaaGreatDoorSBt1
import Derived.Test.YtkdfdcodkeclmaaGreatDoorSUtZ
namespace Go.Proofs.YtkdfdcodkeclmaaGreatDoor
open Tryz
open Go.RowKit Go.Sort
set_option linter.unusedVariables false
set_option linter.unusedSimpArgs false
set_option maxRecDepth 100000
theorem sameNets_s (l : List NtP) (hn : l.length ≤ 1048576) : Fn prog 32 [.p (.sl l.length 2 (l.flatMap ntC)), .p (.sl l.length 2 (l.flatMap ntC))] (.p (.v (.bool true))) [] := by
 refine zat func32 rfl (qE rfl) fun w0 A => zaa<| tx<| wA rfl<| zab<| zaa<| zaa<| tx<| wM rfl<| wP (za9 U58) rfl<| wM rfl<| wP (za9 U58) rfl<| wP za5 rfl<| zab<| zaf<| zap _ rfl (fun h => ?_) (fun h => ?_)
 ·simp at h
 refine zae<| zaa<| zaa<| tx<| wM rfl<| wP (za9 U58) rfl<| wM rfl<| zab<| zak<| zaM (fun m st => ∃ i : Nat, m + i = l.length ∧ st = St.of [(0, .p (.sl l.length 2 (l.flatMap ntC))), (1, .p (.sl l.length 2 (l.flatMap ntC))), (12, .p (.v (.int .i64 l.length))), (13, .p (.v (.int .i64 i)))] []) l.length ?_ ?_
 ·refine ⟨_, zaK id _ _ ?_ ?_ rfl, 0, qO, rfl⟩
  ·(repeat (first | exact trivial | (refine ⟨⟨(by first | rfl | (simp; done) | (simp; omega)), rfl⟩, ?_⟩)))
  ·exact trivial
 rintro m st ⟨i, hi, rfl⟩
 refine zaa<| tx<| wP za8 rfl<| zab<| zaa<| zap _ rfl (fun h => ?_) (fun h => ?_)
 ·have hlt : i < l.length := by simp at h; omega
  clear h
  obtain ⟨s, hs⟩ : ∃ s, l[i]? = some s := ⟨l[i], List.getElem?_eq_getElem hlt⟩
  have hch := zaW (f := ntC) (k := 2) (fun _ => rfl) hs
  have hle := zaV (f := ntC) (k := 2) (fun _ => rfl) hlt
  generalize hL : l.flatMap ntC = L at *
  obtain ⟨a, b⟩ := s
  refine zae<| zaa<| zak<| zaa<| tx<| wM rfl<| wA rfl<| zab<| zaa<| zaB 4 qK<| wM rfl<| wM rfl<| wP (zaA U58 sz27 qO qO rfl) rfl<| wP (zaR U27 rfl sz27 (by first | omega | (simp; done) | (simp; omega)) (hch)) rfl ?_
  refine wM rfl<| wM rfl<| wP (zaA U58 sz27 qO qO rfl) rfl<| wP (zaR U27 rfl sz27 (by first | omega | (simp; done) | (simp; omega)) (hch)) rfl ?_
  refine wP (zaQ U27 (xs := [.int .u32 a, .int .i64 b]) (ys := [.int .u32 a, .int .i64 b]) rfl rfl (by kernel_rfl) (by kernel_rfl) (by kernel_rfl) (c := false) (by rw [zgF]; rfl)) rfl ?_
  refine zab ⟨qK, ?_⟩
  refine zaf<| zai rfl<| zae<| zbf<| zaf<| tx<| wP (za4 (by first | exact IntWalk.i64_in _ (by omega) | rfl)) rfl ?_
  refine wM rfl<| zab<| zaf<| ⟨m - 1, qO, _, zaK id _ _ ?_ ?_ rfl, i + 1, qO, rfl⟩
  ·(repeat (first | exact trivial | (refine ⟨⟨(by first | rfl | (simp; done) | (simp; omega)), rfl⟩, ?_⟩)))
  ·exact trivial
 refine zaH<| zaa<| tx<| wA rfl<| zab<| zag<| yT ?_ ?_
 ·exact rfl
 ·exact trivial
theorem samePe_s (p : PE) (hn : p.nets.length ≤ 1048576) : Fn prog 31 [.agg p.cells, .agg p.cells] (.p (.v (.bool true))) [] := by
 have hQ := sameNets_s p.nets hn
 obtain ⟨pk, sh, ep, al, nn⟩ := p
 dsimp only at hQ
 show Fn prog _ [.agg [.p (.v (.string pk)), .p (.v (.string sh)), .p (.v (.string ep)), .p (.v (.int .i64 al)), .p (.sl nn.length 2 (nn.flatMap ntC))], .agg [.p (.v (.string pk)), .p (.v (.string sh)), .p (.v (.string ep)), .p (.v (.int .i64 al)), .p (.sl nn.length 2 (nn.flatMap ntC))]] _ _
 clear hn
 generalize nn.flatMap ntC = L at *
 generalize nn.length = N at *
 refine zat func31 rfl (qE rfl) fun w0 A => zaa<| tx<| wG (zaJ (X := .agg _) 2 rfl) rfl<| wG (zaJ (X := .agg _) 3 rfl) rfl<| wA rfl<| zab<| zaa<| tx<| wF zbI rfl<| wL U9 rfl<| wF zbI rfl<| wL U9 rfl<| wP zf0 rfl<| wM rfl<| wF zcA rfl<| wL U9 rfl<| wF zcA rfl<| wL U9 rfl<| wP zf0 rfl<| wP zao rfl<| wM rfl<| wF zdY rfl<| wL U9 rfl ?_
 refine wF zdY rfl<| wL U9 rfl<| wP zf0 rfl<| wP zao rfl<| wM rfl<| wF zff rfl<| wL U3 rfl<| wF zff rfl<| wL U3 rfl<| wP za0 rfl<| wP zao rfl<| wM rfl<| wF zbk rfl<| wL U58 rfl<| wF zbk rfl<| wL U58 rfl<| cS (fun n => 36 + 1000 * n) (hQ) func32 ?_
 refine wP zao rfl<| wA rfl<| zab<| zag<| yT ?_ ?_
 ·exact rfl
 ·exact trivial
theorem samePes_s (l : List PE) (hn : l.length ≤ 1048576) (ok : ∀ p ∈ l, p.OK ∧ p.nets.length ≤ 1048576) : Fn prog 30 [.p (.sl l.length 5 (l.flatMap PE.pv)), .p (.sl l.length 5 (l.flatMap PE.pv)), .fn 31 []] (.p (.v (.bool true))) [] := by
 refine zat func30 rfl (qE rfl) fun w0 A => zaa<| tx<| wA rfl<| zab<| zaa<| zaa<| tx<| wM rfl<| wP (za9 U22) rfl<| wM rfl<| wP (za9 U22) rfl<| wP za5 rfl<| zab<| zaf<| zap _ rfl (fun h => ?_) (fun h => ?_)
 ·simp at h
 refine zae<| zaa<| zaa<| tx<| wM rfl<| wP (za9 U22) rfl<| wM rfl<| zab<| zak<| zaM (fun m st => ∃ i : Nat, m + i = l.length ∧ st = St.of [(1, .p (.sl l.length 5 (l.flatMap PE.pv))), (2, .fn 31 []), (15, .p (.sl l.length 5 (l.flatMap PE.pv))), (16, .p (.v (.int .i64 l.length))), (17, .p (.v (.int .i64 i)))] []) l.length ?_ ?_
 ·refine ⟨_, zaK id _ _ ?_ ?_ rfl, 0, qO, rfl⟩
  ·(repeat (first | exact trivial | (refine ⟨⟨(by first | rfl | (simp; done) | (simp; omega)), rfl⟩, ?_⟩)))
  ·exact trivial
 rintro m st ⟨i, hi, rfl⟩
 refine zaa<| tx<| wP za8 rfl<| zab<| zaa<| zap _ rfl (fun h => ?_) (fun h => ?_)
 ·have hlt : i < l.length := by simp at h; omega
  clear h
  obtain ⟨s, hs⟩ : ∃ s, l[i]? = some s := ⟨l[i], List.getElem?_eq_getElem hlt⟩
  have hch := zaW (f := PE.pv) (k := 5) (fun _ => rfl) hs
  have hle := zaV (f := PE.pv) (k := 5) (fun _ => rfl) hlt
  have hC := samePe_s s (ok s (List.mem_of_getElem? hs)).2
  generalize hL : l.flatMap PE.pv = L at *
  refine zae<| zaa<| zak<| zaa<| tx<| wM rfl<| wP (zaA U22 sz60 qO qO rfl) rfl<| wP (zaR U60 rfl sz60 (by first | omega | (simp; done) | (simp; omega)) (hch)) rfl ?_
  refine wG (zaE 8 zr60 rfl) rfl<| wA rfl<| wG (zar (Y := .agg s.cells) sz60 rfl rfl (Nat.eq_of_beq_eq_true rfl)) rfl<| zab<| zaa<| tx<| wM rfl<| wM rfl<| wP (zaA U22 sz60 qO qO rfl) rfl<| wP (zaR U60 rfl sz60 (by first | omega | (simp; done) | (simp; omega)) (hch)) rfl ?_
  refine wG (zaE 9 zr60 rfl) rfl<| wG (zar (Y := .agg s.cells) sz60 rfl rfl (Nat.eq_of_beq_eq_true rfl)) rfl<| zab<| zaa<| tx<| wP (zam (r := .fn _ _)) rfl<| wG (zb9 U60 rfl sz60 (by first | exact Nat.le_of_ble_eq_true rfl | omega | (simp only [AV.cells, List.length_map]; omega)) (show _ = s.cells from rfl)) rfl ?_
  refine wG (zb9 U60 rfl sz60 (by first | exact Nat.le_of_ble_eq_true rfl | omega | (simp only [AV.cells, List.length_map]; omega)) (show _ = s.cells from rfl)) rfl ?_
  refine cS (fun n => 29 + 1000 * n) (hC) func31 ?_
  refine wP zbb rfl<| zab<| zaf<| zap _ rfl (fun h => ?_) (fun h => ?_)
  ·cases h
  refine zae<| zbf<| zaf<| tx<| wP (za4 (by first | exact IntWalk.i64_in _ (by omega) | rfl)) rfl ?_
  refine wM rfl<| zab<| zaf<| ⟨m - 1, qO, _, zaK id _ _ ?_ ?_ rfl, i + 1, qO, rfl⟩
  ·(repeat (first | exact trivial | (refine ⟨⟨(by first | rfl | (simp; done) | (simp; omega)), rfl⟩, ?_⟩)))
  ·exact trivial
 refine zaH<| zaa<| tx<| wA rfl<| zab<| zag<| yT ?_ ?_
 ·exact rfl
 ·exact trivial
theorem sameConfP (key : ByteArray) (port : Int) (Q : PV) (hQ : Fn prog 30 [.p Q, .p Q, .fn 31 []] (.p (.v (.bool true))) []) : Fn prog 9 [.agg [.p (.v (.string key)), .p (.v (.int .i64 port)), .p Q], .agg [.p (.v (.string key)), .p (.v (.int .i64 port)), .p Q]] (.p (.v (.bool true))) [] := by
 refine zat func9 rfl (qE rfl) fun w0 A => zaa<| tx<| wG (zaJ (X := .agg _) 2 rfl) rfl<| wG (zaJ (X := .agg _) 3 rfl) rfl<| wA rfl<| zab<| zaa<| tx<| wF zbD rfl<| wL U9 rfl<| wF zbD rfl<| wL U9 rfl<| wP zf0 rfl<| wM rfl<| wF zdK rfl<| wL U3 rfl<| wF zdK rfl<| wL U3 rfl<| wP za0 rfl<| wP zao rfl<| wM rfl<| wF zaI rfl<| wL U22 rfl ?_
 refine wF zaI rfl<| wL U22 rfl<| cS (fun n => 22 + 1000 * n) (hQ) func30 ?_
 refine wP zao rfl<| wA rfl<| zab<| zag<| yT ?_ ?_
 ·exact rfl
 ·exact trivial
theorem zf4 (c : CF) (ok : c.OK) : Fn prog 9 [.agg c.cells, .agg c.cells] (.p (.v (.bool true))) [] :=
 sameConfP c.key c.port _ (samePes_s c.ps ok.len ok.ps)
end Go.Proofs.YtkdfdcodkeclmaaGreatDoor
/- Settings, typed, as data. -/
namespace Go.Proofs.YtkdfdcodkeclmaaGreatDoor
open Tryz
open Go.RowKit Go.Sort
set_option linter.unusedVariables false
set_option linter.unusedSimpArgs false
set_option maxRecDepth 100000
theorem SE.of_ty {n : Nat} {ps : List PV} (h : Ty prog (n + 3) 29 ps) (hb : PV.bdL 1048576 ps) : ∃ s : SE, s.OK ∧ ps = s.pv := by
 obtain ⟨_, rfl, x0, _, rfl, t0, x1, _, rfl, t1, x2, _, rfl, t2, x3, _, rfl, t3, rfl⟩ := zdd (ts := [3, 9, 3, 27]) qK h
 obtain ⟨k, rfl, hk⟩ := zdV U3 t0
 obtain ⟨t, rfl, _⟩ := zde U9 t1
 obtain ⟨m, rfl, hm⟩ := zdV U3 t2
 obtain ⟨_, rfl, y0, _, rfl, u0, y1, _, rfl, u1, rfl⟩ := zdd (ts := [25, 3]) qK t3
 obtain ⟨a, rfl, ha⟩ := zdV underlying25 u0
 obtain ⟨b, rfl, hb'⟩ := zdV U3 u1
 obtain ⟨m0, m1⟩ := wf_i64 hm
 obtain ⟨a0, a1⟩ := wf_u32 ha
 refine ⟨⟨k, t, m, a, b⟩, ⟨?_, m0, m1, a0, a1⟩, rfl⟩
 simp [PV.bdL, PV.bd] at hb
 show t.size < _
 omega
theorem SE.list_ty {n : Nat} {ps : List PV} (h : Ty prog (n + 4) 35 ps) (hb : PV.bdL 1048576 ps) : ∃ l : List SE, (∀ s ∈ l, s.OK) ∧ l.length ≤ 1048576 ∧ ps = [.sl l.length 5 (l.flatMap SE.pv)] := by
 obtain ⟨L, rfl, h2, h3⟩ := ty_slice (sz := 5) U35 qK h
 simp only [PV.bdL, PV.bd, and_true] at hb
 obtain ⟨l, k1, k2, k3⟩ := zgu (f := SE.pv) (Q := SE.OK) (L := L) fun x hx => by
  obtain ⟨s, h4, h5⟩ := SE.of_ty (n := n) (h3 x hx).1 (zcK hb.2 x hx)
  exact ⟨s, h4, h5⟩
 exact ⟨l, k3, by rw [k1]; exact hb.1, by rw [k1, k2]⟩
end Go.Proofs.YtkdfdcodkeclmaaGreatDoor
