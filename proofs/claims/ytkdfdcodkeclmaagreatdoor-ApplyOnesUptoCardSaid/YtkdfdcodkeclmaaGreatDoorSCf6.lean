/- The law's sameConf: a configuration is the same as itself; over data. -/
import Derived.Test.YtkdfdcodkeclmaaGreatDoorSCf2
import Derived.Test.YtkdfdcodkeclmaaGreatDoorSBt1
namespace Go.Proofs.YtkdfdcodkeclmaaGreatDoor
open Go.RowKit Go.Sort
set_option linter.unusedVariables false
set_option linter.unusedSimpArgs false
set_option maxRecDepth 100000
theorem sameNets_s (l : List NtP) (hn : l.length ≤ 1048576) : Fn Tryz.prog 32 [.p (.sl l.length 2 (l.flatMap ntC)), .p (.sl l.length 2 (l.flatMap ntC))] (.p (.v (.bool true))) [] := by
 refine zaq Tryz.func32 rfl (Nat.le_of_ble_eq_true rfl) fun w0 A => ?_
 refine zaa ?_
 refine tx ?_
 refine yA ?_
 refine zab ?_
 refine zaa (zaa ?_)
 refine tx ?_
 refine yM ?_
 refine yP (zbi Tryz.underlying58) ?_
 refine yM ?_
 refine yP (zbi Tryz.underlying58) ?_
 refine yP zaY ?_
 refine zab ?_
 refine zae ?_
 refine zan _ rfl (fun h => ?_) (fun h => ?_)
 ·simp at h
 refine zad (zaa (zaa ?_))
 refine tx ?_
 refine yM ?_
 refine yP (zbi Tryz.underlying58) ?_
 refine yM ?_
 refine zab ?_
 refine zaj ?_
 refine zaK (fun m st => ∃ i : Nat, m + i = l.length ∧ st = St.of [(0, .p (.sl l.length 2 (l.flatMap ntC))), (1, .p (.sl l.length 2 (l.flatMap ntC))), (12, .p (.v (.int .i64 l.length))), (13, .p (.v (.int .i64 i)))] []) l.length ?_ ?_
 ·refine ⟨_, zaF id _ _ ?_ ?_ rfl, 0, by omega, rfl⟩
  ·(repeat (first | exact trivial | (refine ⟨⟨(by first | rfl | (simp; done) | (simp; omega)), rfl⟩, ?_⟩)))
  ·exact trivial
 rintro m st ⟨i, hi, rfl⟩
 refine zaa ?_
 refine tx ?_
 refine yP za4 ?_
 refine zab ?_
 refine zaa ?_
 refine zan _ rfl (fun h => ?_) (fun h => ?_)
 ·have hlt : i < l.length := by simp at h; omega
  clear h
  obtain ⟨s, hs⟩ : ∃ s, l[i]? = some s := ⟨l[i], List.getElem?_eq_getElem hlt⟩
  have hch := zaV (f := ntC) (k := 2) (fun _ => rfl) hs
  have hle := zaS (f := ntC) (k := 2) (fun _ => rfl) hlt
  generalize hL : l.flatMap ntC = L at *
  obtain ⟨a, b⟩ := s
  refine zad (zaa (zaj (zaa ?_)))
  refine tx ?_
  refine yM ?_
  refine yA ?_
  refine zab ?_
  refine zaa ?_
  refine zaw 4 (by kernel_rfl) ?_
  refine yM ?_
  refine yM ?_
  refine zac (zax Tryz.underlying58 sz27 (by omega) (by omega) rfl) rfl rfl ?_
  refine zac (zaN Tryz.underlying27 rfl sz27 (by first | omega | (simp; done) | (simp; omega)) (hch)) rfl rfl ?_
  refine yM ?_
  refine yM ?_
  refine zac (zax Tryz.underlying58 sz27 (by omega) (by omega) rfl) rfl rfl ?_
  refine zac (zaN Tryz.underlying27 rfl sz27 (by first | omega | (simp; done) | (simp; omega)) (hch)) rfl rfl ?_
  refine zac (zaJ Tryz.underlying27 (xs := [.int .u32 a, .int .i64 b]) (ys := [.int .u32 a, .int .i64 b]) rfl rfl (by kernel_rfl) (by kernel_rfl) (by kernel_rfl) (c := false) (by rw [eqL_refl]; rfl)) rfl rfl ?_
  refine zab ⟨by kernel_rfl, ?_⟩
  refine zae ?_
  refine zaf rfl ?_
  refine zad (zba (zae ?_))
  refine tx ?_
  refine zac (za1 (by first | exact IntWalk.i64_in _ (by omega) | rfl)) rfl rfl ?_
  refine yM ?_
  refine zab ?_
  refine zae ?_
  refine ⟨m - 1, by omega, _, zaF id _ _ ?_ ?_ rfl, i + 1, by omega, rfl⟩
  ·(repeat (first | exact trivial | (refine ⟨⟨(by first | rfl | (simp; done) | (simp; omega)), rfl⟩, ?_⟩)))
  ·exact trivial
 refine zaE (zaa ?_)
 refine tx ?_
 refine yA ?_
 refine zab ?_
 refine zah ?_
 refine yT ?_ ?_
 ·exact rfl
 ·exact trivial
theorem samePe_s (p : PE) (hn : p.nets.length ≤ 1048576) : Fn Tryz.prog 31 [.agg p.cells, .agg p.cells] (.p (.v (.bool true))) [] := by
 have hQ := sameNets_s p.nets hn
 obtain ⟨pk, sh, ep, al, nn⟩ := p
 dsimp only at hQ
 show Fn Tryz.prog _ [.agg [.p (.v (.string pk)), .p (.v (.string sh)), .p (.v (.string ep)), .p (.v (.int .i64 al)), .p (.sl nn.length 2 (nn.flatMap ntC))], .agg [.p (.v (.string pk)), .p (.v (.string sh)), .p (.v (.string ep)), .p (.v (.int .i64 al)), .p (.sl nn.length 2 (nn.flatMap ntC))]] _ _
 clear hn
 generalize nn.flatMap ntC = L at *
 generalize nn.length = N at *
 refine zaq Tryz.func31 rfl (Nat.le_of_ble_eq_true rfl) fun w0 A => ?_
 refine zaa ?_
 refine tx ?_
 refine zag (zaD (X := .agg _) 2 rfl) rfl rfl ⟨rfl, trivial⟩ ?_
 refine zag (zaD (X := .agg _) 3 rfl) rfl rfl ⟨rfl, trivial⟩ ?_
 refine yA ?_
 refine zab ?_
 refine zaa ?_
 refine tx ?_
 refine yF zby ?_
 refine yL Tryz.underlying9 ?_
 refine yF zby ?_
 refine yL Tryz.underlying9 ?_
 refine yP zfO ?_
 refine yM ?_
 refine yF zcq ?_
 refine yL Tryz.underlying9 ?_
 refine yF zcq ?_
 refine yL Tryz.underlying9 ?_
 refine yP zfO ?_
 refine yP zam ?_
 refine yM ?_
 refine yF zdO ?_
 refine yL Tryz.underlying9 ?_
 refine yF zdO ?_
 refine yL Tryz.underlying9 ?_
 refine yP zfO ?_
 refine yP zam ?_
 refine yM ?_
 refine yF ze5 ?_
 refine yL Tryz.underlying3 ?_
 refine yF ze5 ?_
 refine yL Tryz.underlying3 ?_
 refine yP zaU ?_
 refine yP zam ?_
 refine yM ?_
 refine yF zbc ?_
 refine yL Tryz.underlying58 ?_
 refine yF zbc ?_
 refine yL Tryz.underlying58 ?_
 refine cS (fun n => 36 + 1000 * n) (hQ) Tryz.func32 ?_
 refine yP zam ?_
 refine yA ?_
 refine zab ?_
 refine zah ?_
 refine yT ?_ ?_
 ·exact rfl
 ·exact trivial
theorem samePes_s (l : List PE) (hn : l.length ≤ 1048576) (ok : ∀ p ∈ l, p.OK ∧ p.nets.length ≤ 1048576) : Fn Tryz.prog 30 [.p (.sl l.length 5 (l.flatMap PE.pv)), .p (.sl l.length 5 (l.flatMap PE.pv)), .fn 31 []] (.p (.v (.bool true))) [] := by
 refine zaq Tryz.func30 rfl (Nat.le_of_ble_eq_true rfl) fun w0 A => ?_
 refine zaa ?_
 refine tx ?_
 refine yA ?_
 refine zab ?_
 refine zaa (zaa ?_)
 refine tx ?_
 refine yM ?_
 refine yP (zbi Tryz.underlying22) ?_
 refine yM ?_
 refine yP (zbi Tryz.underlying22) ?_
 refine yP zaY ?_
 refine zab ?_
 refine zae ?_
 refine zan _ rfl (fun h => ?_) (fun h => ?_)
 ·simp at h
 refine zad (zaa (zaa ?_))
 refine tx ?_
 refine yM ?_
 refine yP (zbi Tryz.underlying22) ?_
 refine yM ?_
 refine zab ?_
 refine zaj ?_
 refine zaK (fun m st => ∃ i : Nat, m + i = l.length ∧ st = St.of [(1, .p (.sl l.length 5 (l.flatMap PE.pv))), (2, .fn 31 []), (15, .p (.sl l.length 5 (l.flatMap PE.pv))), (16, .p (.v (.int .i64 l.length))), (17, .p (.v (.int .i64 i)))] []) l.length ?_ ?_
 ·refine ⟨_, zaF id _ _ ?_ ?_ rfl, 0, by omega, rfl⟩
  ·(repeat (first | exact trivial | (refine ⟨⟨(by first | rfl | (simp; done) | (simp; omega)), rfl⟩, ?_⟩)))
  ·exact trivial
 rintro m st ⟨i, hi, rfl⟩
 refine zaa ?_
 refine tx ?_
 refine yP za4 ?_
 refine zab ?_
 refine zaa ?_
 refine zan _ rfl (fun h => ?_) (fun h => ?_)
 ·have hlt : i < l.length := by simp at h; omega
  clear h
  obtain ⟨s, hs⟩ : ∃ s, l[i]? = some s := ⟨l[i], List.getElem?_eq_getElem hlt⟩
  have hch := zaV (f := PE.pv) (k := 5) (fun _ => rfl) hs
  have hle := zaS (f := PE.pv) (k := 5) (fun _ => rfl) hlt
  have hC := samePe_s s (ok s (List.mem_of_getElem? hs)).2
  generalize hL : l.flatMap PE.pv = L at *
  refine zad (zaa (zaj (zaa ?_)))
  refine tx ?_
  refine yM ?_
  refine zac (zax Tryz.underlying22 sz60 (by omega) (by omega) rfl) rfl rfl ?_
  refine zac (zaN Tryz.underlying60 rfl sz60 (by first | omega | (simp; done) | (simp; omega)) (hch)) rfl rfl ?_
  refine zag (zaA 8 zr60 rfl) rfl rfl ⟨rfl, trivial⟩ ?_
  refine yA ?_
  refine zag (zas (Y := .agg s.cells) sz60 rfl rfl (Nat.eq_of_beq_eq_true rfl)) rfl rfl ⟨rfl, trivial⟩ ?_
  refine zab ?_
  refine zaa ?_
  refine tx ?_
  refine yM ?_
  refine yM ?_
  refine zac (zax Tryz.underlying22 sz60 (by omega) (by omega) rfl) rfl rfl ?_
  refine zac (zaN Tryz.underlying60 rfl sz60 (by first | omega | (simp; done) | (simp; omega)) (hch)) rfl rfl ?_
  refine zag (zaA 9 zr60 rfl) rfl rfl ⟨rfl, trivial⟩ ?_
  refine zag (zas (Y := .agg s.cells) sz60 rfl rfl (Nat.eq_of_beq_eq_true rfl)) rfl rfl ⟨rfl, trivial⟩ ?_
  refine zab ?_
  refine zaa ?_
  refine tx ?_
  refine yP (zal (r := .fn _ _)) ?_
  refine zag (zb4 Tryz.underlying60 rfl sz60 (by first | exact Nat.le_of_ble_eq_true rfl | omega | (simp only [AV.cells, List.length_map]; omega)) (show _ = s.cells from rfl)) rfl rfl ⟨rfl, trivial⟩ ?_
  refine zag (zb4 Tryz.underlying60 rfl sz60 (by first | exact Nat.le_of_ble_eq_true rfl | omega | (simp only [AV.cells, List.length_map]; omega)) (show _ = s.cells from rfl)) rfl rfl ⟨rfl, trivial⟩ ?_
  refine cS (fun n => 29 + 1000 * n) (hC) Tryz.func31 ?_
  refine yP za5 ?_
  refine zab ?_
  refine zae ?_
  refine zan _ rfl (fun h => ?_) (fun h => ?_)
  ·cases h
  refine zad (zba (zae ?_))
  refine tx ?_
  refine zac (za1 (by first | exact IntWalk.i64_in _ (by omega) | rfl)) rfl rfl ?_
  refine yM ?_
  refine zab ?_
  refine zae ?_
  refine ⟨m - 1, by omega, _, zaF id _ _ ?_ ?_ rfl, i + 1, by omega, rfl⟩
  ·(repeat (first | exact trivial | (refine ⟨⟨(by first | rfl | (simp; done) | (simp; omega)), rfl⟩, ?_⟩)))
  ·exact trivial
 refine zaE (zaa ?_)
 refine tx ?_
 refine yA ?_
 refine zab ?_
 refine zah ?_
 refine yT ?_ ?_
 ·exact rfl
 ·exact trivial
theorem sameConfP (key : ByteArray) (port : Int) (Q : PV) (hQ : Fn Tryz.prog 30 [.p Q, .p Q, .fn 31 []] (.p (.v (.bool true))) []) : Fn Tryz.prog 9 [.agg [.p (.v (.string key)), .p (.v (.int .i64 port)), .p Q], .agg [.p (.v (.string key)), .p (.v (.int .i64 port)), .p Q]] (.p (.v (.bool true))) [] := by
 refine zaq Tryz.func9 rfl (Nat.le_of_ble_eq_true rfl) fun w0 A => ?_
 refine zaa ?_
 refine tx ?_
 refine zag (zaD (X := .agg _) 2 rfl) rfl rfl ⟨rfl, trivial⟩ ?_
 refine zag (zaD (X := .agg _) 3 rfl) rfl rfl ⟨rfl, trivial⟩ ?_
 refine yA ?_
 refine zab ?_
 refine zaa ?_
 refine tx ?_
 refine yF zbz ?_
 refine yL Tryz.underlying9 ?_
 refine yF zbz ?_
 refine yL Tryz.underlying9 ?_
 refine yP zfO ?_
 refine yM ?_
 refine yF zev ?_
 refine yL Tryz.underlying3 ?_
 refine yF zev ?_
 refine yL Tryz.underlying3 ?_
 refine yP zaU ?_
 refine yP zam ?_
 refine yM ?_
 refine yF zaC ?_
 refine yL Tryz.underlying22 ?_
 refine yF zaC ?_
 refine yL Tryz.underlying22 ?_
 refine cS (fun n => 22 + 1000 * n) (hQ) Tryz.func30 ?_
 refine yP zam ?_
 refine yA ?_
 refine zab ?_
 refine zah ?_
 refine yT ?_ ?_
 ·exact rfl
 ·exact trivial
theorem sameConf_s (c : CF) (ok : c.OK) : Fn Tryz.prog 9 [.agg c.cells, .agg c.cells] (.p (.v (.bool true))) [] :=
 sameConfP c.key c.port _ (samePes_s c.ps ok.len ok.ps)
end Go.Proofs.YtkdfdcodkeclmaaGreatDoor
