/- conf.Copy, conf.Find, the reference's PeerAt, the law's sameConf, over data. -/
import Derived.Test.YtgpleldhddpcgaaGreatDoorSCf2
import Derived.Test.YtgpleldhddpcgaaGreatDoorSBt1
import Derived.Test.YtgpleldhddpcgaaGreatDoorSFz
import Derived.Test.YtgpleldhddpcgaaGreatDoorSTw3
import Derived.Test.YtgpleldhddpcgaaGreatDoorSTab
namespace Go.Proofs.YtgpleldhddpcgaaGreatDoor
open Go.RowKit Go.Sort
set_option linter.unusedVariables false
set_option linter.unusedSimpArgs false
set_option maxRecDepth 100000
theorem nclone_s (l : List NtP) (hn : l.length ≤ 1048576) : Fn Tryz.prog 73 [.p (.sl l.length 2 (l.flatMap ntC))] (.row 0) [(0, .row 52 2 l.length (l.flatMap ntC))] := by
 have hL : (l.flatMap ntC).length = l.length * 2 := zcg (f := ntC) (k := 2) (fun _ => rfl) l
 by_cases h0 : l.length = 0
 ·obtain rfl : l = [] := List.eq_nil_of_length_eq_zero h0
  show Fn Tryz.prog _ [.p (.sl 0 2 [])] (.row 0) [(0, .row 52 2 0 [])]
  refine zap Tryz.func73 rfl (Nat.le_of_ble_eq_true rfl) fun w0 A => ?_
  refine zaa ?_
  refine tx ?_
  refine yA ?_
  refine zab ?_
  refine zaa (zaa ?_)
  refine tx ?_
  refine yM ?_
  refine yP (a_seqX Tryz.underlying47) ?_
  refine zab ?_
  refine zae ?_
  refine ze8 rfl ?_ ?_
  ·refine zaa ?_
   refine tx ?_
   refine yA ?_
   refine zab ?_
   refine zae (zcu (zdk 2 100 52 2 rfl rfl) ?_)
   refine zaf (zam ?_)
   refine fT (fun _ => 100) (.tmp _ _ _ _ rfl .nil) ?_ ?_
   ·exact rfl
   ·exact ⟨⟨rfl, rfl⟩, trivial⟩
  ·refine zad (zaa ?_)
   refine tx ?_
   refine zal (zbG 5 Tryz.underlying47 sz52) rfl rfl ⟨rfl, trivial⟩ ?_
   refine yM ?_
   refine zal (zbe 7 Tryz.underlying47 eo52 (zdJ) (by simp only [maxLen]; omega) (by omega) rfl rfl) rfl rfl ⟨rfl, rfl, trivial⟩ ?_
   refine yP (zas (r := .row _)) ?_
   refine zab ?_
   refine zaf ?_
   refine fT (fun _ => 7) (.tmp _ _ _ _ rfl .nil) ?_ ?_
   ·exact rfl
   ·exact ⟨⟨rfl, rfl⟩, trivial⟩
 ·generalize l.flatMap ntC = L at *
  generalize l.length = n at *
  refine zap Tryz.func73 rfl (Nat.le_of_ble_eq_true rfl) fun w0 A => ?_
  refine zaa ?_
  refine tx ?_
  refine yA ?_
  refine zab ?_
  refine zaa (zaa ?_)
  refine tx ?_
  refine yM ?_
  refine zac (a_seqS Tryz.underlying47 (by omega)) rfl rfl ?_
  refine zab ?_
  refine zae ?_
  refine zah _ rfl (fun h => ?_) (fun h => ?_)
  ·cases h
  ·refine zad (zaa ?_)
   refine tx ?_
   refine zal (zbG 5 Tryz.underlying47 sz52) rfl rfl ⟨rfl, trivial⟩ ?_
   refine yM ?_
   refine zal (zbe 7 Tryz.underlying47 eo52 (zdJ) (by simp only [maxLen]; omega) (by omega) (show _ = n by omega) rfl) rfl rfl ⟨rfl, rfl, trivial⟩ ?_
   refine yP (zas (r := .row _)) ?_
   refine zab ?_
   refine zaf ?_
   refine fT (fun _ => 7) (.tmp _ _ _ _ rfl .nil) ?_ ?_
   ·exact rfl
   ·exact ⟨⟨rfl, rfl⟩, trivial⟩
theorem pe_push (l : List PE) (i : Nat) (p : PE) (h : l[i]? = some p) : (l.take i).flatMap PE.pv ++ p.pv = (l.take (i + 1)).flatMap PE.pv := by
 obtain ⟨h1, h2⟩ := List.getElem?_eq_some_iff.1 h
 rw [List.take_succ_eq_append_getElem h1, h2, List.flatMap_append]
 simp
set_option maxHeartbeats 4000000 in
theorem cfCopy_s (c : CF) (ok : c.OK) : Fn Tryz.prog 30 [.agg c.cells] (.agg [.p (.v (.string c.key)), .p (.v (.int .i64 c.port)), .row 0]) [(0, .row 49 5 c.ps.length (c.ps.flatMap PE.pv))] := by
 obtain ⟨key, port, l⟩ := c
 obtain ⟨hn, ok⟩ := ok
 dsimp only at hn ok
 show Fn Tryz.prog _ [.agg (cfC key port l.length (l.flatMap PE.pv))] (.agg [.p (.v (.string key)), .p (.v (.int .i64 port)), .row 0]) [(0, .row 49 5 l.length (l.flatMap PE.pv))]
 refine zap Tryz.func30 rfl (Nat.le_of_ble_eq_true rfl) fun w0 A => ?_
 refine zaa ?_
 refine tx ?_
 refine zal (za2 (X := .agg _) 1 rfl) rfl rfl ⟨rfl, trivial⟩ ?_
 refine zal (zaU 2 zr24 rfl) rfl rfl ⟨rfl, trivial⟩ ?_
 refine zab ?_
 refine zaa ?_
 refine tx ?_
 refine yF zbO ?_
 refine yL Tryz.underlying22 ?_
 refine yP (zaC Tryz.underlying22) ?_
 refine zal (zhv 9 Tryz.underlying22 eo49 (by omega) (by omega) (by simp only [maxLen]; omega)) rfl rfl ⟨rfl, trivial⟩ ?_
 refine yP (zas (r := .row _)) ?_
 refine zab ?_
 refine zaa (zaa ?_)
 refine tx ?_
 refine yF zbO ?_
 refine yL Tryz.underlying22 ?_
 refine yP (zaC Tryz.underlying22) ?_
 refine yM ?_
 refine zab ?_
 refine zaj ?_
 refine zaE (fun m st => ∃ i : Nat, m + i = l.length ∧ st = St.of [(1, .ref 1 0), (2, .ref 2 0), (3, .row 100), (11, .p (.sl l.length 5 (l.flatMap PE.pv))), (12, .p (.v (.int .i64 l.length))), (13, .p (.v (.int .i64 i)))] [(1, .box 24 (cfC key port l.length (l.flatMap PE.pv))), (2, .box 24 [.p (.v (.string ⟨#[]⟩)), .p (.v (.int .i64 0)), .p (.v (.slice none 0 0))]), (100, .row 49 5 i ((l.take i).flatMap PE.pv))]) l.length ?_ ?_
 ·refine ⟨_, zaJ (fun o => bif Nat.beq o 100 then 9 else o) _ _ ?_ ?_ rfl, 0, by omega, rfl⟩
  ·(repeat (first | exact trivial | (refine ⟨⟨(by first | rfl | (simp; done) | (simp; omega)), rfl⟩, ?_⟩)))
  ·exact ⟨⟨rfl, rfl⟩, ⟨rfl, rfl⟩, ⟨rfl, rfl⟩, trivial⟩
 rintro m st ⟨i, hi, rfl⟩
 refine zaa ?_
 refine tx ?_
 refine yP zaX ?_
 refine zab ?_
 refine zaa ?_
 refine zah _ rfl (fun h => ?_) (fun h => ?_)
 ·have hlt : i < l.length := by simp at h; omega
  clear h
  obtain ⟨p, hp⟩ : ∃ p, l[i]? = some p := ⟨l[i], List.getElem?_eq_getElem hlt⟩
  have hch := zaN (f := PE.pv) (k := 5) (fun _ => rfl) hp
  have hle := zaP (f := PE.pv) (k := 5) (fun _ => rfl) hlt
  have hpl := (ok p (List.mem_of_getElem? hp)).2
  have hC := nclone_s p.nets hpl
  have hpush := pe_push l i p hp
  have hil : ((l.take i).flatMap PE.pv).length = i * 5 := by rw [zcg (k := 5) (fun _ => rfl), List.length_take, Nat.min_eq_left (by omega)]
  generalize hL : l.flatMap PE.pv = L at *
  generalize (l.take i).flatMap PE.pv = T at *
  obtain ⟨pk, sh, ep, al, nn⟩ := p
  dsimp only at hC hpl
  refine zad (zaa (zaj (zaa ?_)))
  refine tx ?_
  refine zac (zao Tryz.underlying22 sz49 (by omega) (by omega) rfl) rfl rfl ?_
  refine zac (zaz Tryz.underlying49 rfl sz49 (by first | omega | (simp; done) | (simp; omega)) (hch)) rfl rfl ?_
  refine zal (zaU 5 zr49 rfl) rfl rfl ⟨rfl, trivial⟩ ?_
  refine zal (zaA (Y := .agg [.p (.v (.string pk)), .p (.v (.string sh)), .p (.v (.string ep)), .p (.v (.int .i64 al)), .p (.sl nn.length 2 (nn.flatMap ntC))]) sz49 rfl rfl (Nat.eq_of_beq_eq_true rfl)) rfl rfl ⟨rfl, trivial⟩ ?_
  refine zab ?_
  refine zaa ?_
  refine tx ?_
  refine yF zcj ?_
  refine yL Tryz.underlying47 ?_
  refine cS (fun _ => 19) (hC) Tryz.func73 ?_
  refine yF zcj ?_
  refine zal (zbp (Y := .row _) sz47 rfl (by first | exact Nat.eq_of_beq_eq_true rfl | (simp only [AV.cells, List.length_map]; first | assumption | omega)) (by first | exact Nat.le_of_ble_eq_true rfl | omega | (simp only [AV.cells, List.length_map]; omega)) (by first | (simp only [setR, AV.cells, List.take_succ_cons, List.take_zero, List.drop_succ_cons, List.drop_zero, List.drop_nil, List.take_nil, List.nil_append, List.cons_append, List.append_nil, List.length_cons, List.length_nil, Nat.reduceAdd, Nat.zero_add, Nat.add_zero]; rfl) | rfl)) rfl rfl ⟨rfl, trivial⟩ ?_
  refine zab ?_
  refine zg3 (zha (cs := nn.flatMap ntC) 19 rfl) ?_
  skip
  refine tx ?_
  refine yP (zaq (r := .row _)) ?_
  refine lN Tryz.underlying49 rfl sz49 rfl rfl ⟨rfl, trivial⟩ ?_
  refine zal (zaO 23 Tryz.underlying22 sz49 zc49 (Nat.le_of_ble_eq_true rfl) (Nat.le_of_ble_eq_true rfl) rfl rfl rfl rfl (Nat.le_of_ble_eq_true rfl)) rfl rfl ⟨rfl, trivial⟩ ?_
  refine zal (zbe 24 Tryz.underlying22 eo49 (zbX) (by simp only [maxLen]; omega) (by omega) rfl rfl) rfl rfl ⟨rfl, rfl, rfl, trivial⟩ ?_
  refine yP (zas (r := .row _)) ?_
  refine zab ?_
  refine za3 (zae ?_)
  refine tx ?_
  refine zac (za4 (by first | exact IntWalk.i64_in _ (by omega) | rfl)) rfl rfl ?_
  refine yM ?_
  refine zab ?_
  refine zae ?_
  refine ⟨m - 1, by omega, _, zaJ (fun o => bif Nat.beq o 100 then 24 else o) _ _ ?_ ?_ rfl, i + 1, by omega, rfl⟩
  ·(repeat (first | exact trivial | (refine ⟨⟨(by first | rfl | (simp; done) | (simp; omega)), rfl⟩, ?_⟩)))
  ·exact ⟨⟨rfl, rfl⟩, ⟨rfl, rfl⟩, ⟨by rw [← hpush]; rfl, rfl⟩, trivial⟩
 have hge : i = l.length := by simp at h; omega
 clear h
 subst hge
 rw [List.take_length]
 refine zaG (zaa ?_)
 refine tx ?_
 refine yP (zaq (r := .row _)) ?_
 refine yF zbO ?_
 refine zal (zbp (Y := .row _) sz22 rfl (by first | exact Nat.eq_of_beq_eq_true rfl | (simp only [AV.cells, List.length_map]; first | assumption | omega)) (by first | exact Nat.le_of_ble_eq_true rfl | omega | (simp only [AV.cells, List.length_map]; omega)) (by first | (simp only [setR, AV.cells, List.take_succ_cons, List.take_zero, List.drop_succ_cons, List.drop_zero, List.drop_nil, List.take_nil, List.nil_append, List.cons_append, List.append_nil, List.length_cons, List.length_nil, Nat.reduceAdd, Nat.zero_add, Nat.add_zero]; rfl) | rfl)) rfl rfl ⟨rfl, trivial⟩ ?_
 refine zab ?_
 refine zaa ?_
 refine tx ?_
 refine lN Tryz.underlying24 rfl sz24 rfl rfl ⟨rfl, trivial⟩ ?_
 refine zal (zaA (Y := .agg _) sz24 rfl (by first | exact Nat.eq_of_beq_eq_true rfl | (simp only [AV.cells, List.length_map]; first | assumption | omega)) (Nat.eq_of_beq_eq_true rfl)) rfl rfl ⟨rfl, trivial⟩ ?_
 refine zab ?_
 refine zaf ?_
 refine fT (fun _ => 100) (.cellN _ _ _ _ _ _ _ _ _ rfl rfl Tryz.underlying24 rfl sz24 (by first | assumption | kernel_rfl) .nil) ?_ ?_
 ·exact rfl
 ·exact ⟨⟨rfl, rfl⟩, trivial⟩
end Go.Proofs.YtgpleldhddpcgaaGreatDoor
/- The law's sameConf: a configuration is the same as itself; over data. -/
namespace Go.Proofs.YtgpleldhddpcgaaGreatDoor
open Go.RowKit Go.Sort
set_option linter.unusedVariables false
set_option linter.unusedSimpArgs false
set_option maxRecDepth 100000
end Go.Proofs.YtgpleldhddpcgaaGreatDoor
/- The law's sameSettings: settings are the same as themselves; over data. -/
namespace Go.Proofs.YtgpleldhddpcgaaGreatDoor
open Go.RowKit Go.Sort
set_option linter.unusedVariables false
set_option linter.unusedSimpArgs false
set_option maxRecDepth 100000
end Go.Proofs.YtgpleldhddpcgaaGreatDoor
/- stage.Copy, the law's sameStage, the law StageChecks, over data. -/
namespace Go.Proofs.YtgpleldhddpcgaaGreatDoor
open Go.RowKit Go.Sort
set_option linter.unusedVariables false
set_option linter.unusedSimpArgs false
set_option maxRecDepth 100000
theorem sclone_s (l : List SE) (hn : l.length ≤ 1048576) : Fn Tryz.prog 84 [.p (.sl l.length 5 (l.flatMap SE.pv))] (.row 0) [(0, .row 86 5 l.length (l.flatMap SE.pv))] := by
 have hL : (l.flatMap SE.pv).length = l.length * 5 := zcg (f := SE.pv) (k := 5) (fun _ => rfl) l
 by_cases h0 : l.length = 0
 ·obtain rfl : l = [] := List.eq_nil_of_length_eq_zero h0
  show Fn Tryz.prog _ [.p (.sl 0 5 [])] (.row 0) [(0, .row 86 5 0 [])]
  refine zap Tryz.func84 rfl (Nat.le_of_ble_eq_true rfl) fun w0 A => ?_
  refine zaa ?_
  refine tx ?_
  refine yA ?_
  refine zab ?_
  refine zaa (zaa ?_)
  refine tx ?_
  refine yM ?_
  refine yP (a_seqX Tryz.underlying33) ?_
  refine zab ?_
  refine zae ?_
  refine ze8 rfl ?_ ?_
  ·refine zaa ?_
   refine tx ?_
   refine yA ?_
   refine zab ?_
   refine zae (zcu (zdk 2 100 86 5 rfl rfl) ?_)
   refine zaf (zam ?_)
   refine fT (fun _ => 100) (.tmp _ _ _ _ rfl .nil) ?_ ?_
   ·exact rfl
   ·exact ⟨⟨rfl, rfl⟩, trivial⟩
  ·refine zad (zaa ?_)
   refine tx ?_
   refine zal (zbG 5 Tryz.underlying33 sz86) rfl rfl ⟨rfl, trivial⟩ ?_
   refine yM ?_
   refine zal (zbe 7 Tryz.underlying33 eo86 (zdJ) (by simp only [maxLen]; omega) (by omega) rfl rfl) rfl rfl ⟨rfl, rfl, trivial⟩ ?_
   refine yP (zas (r := .row _)) ?_
   refine zab ?_
   refine zaf ?_
   refine fT (fun _ => 7) (.tmp _ _ _ _ rfl .nil) ?_ ?_
   ·exact rfl
   ·exact ⟨⟨rfl, rfl⟩, trivial⟩
 ·generalize l.flatMap SE.pv = L at *
  generalize l.length = n at *
  refine zap Tryz.func84 rfl (Nat.le_of_ble_eq_true rfl) fun w0 A => ?_
  refine zaa ?_
  refine tx ?_
  refine yA ?_
  refine zab ?_
  refine zaa (zaa ?_)
  refine tx ?_
  refine yM ?_
  refine zac (a_seqS Tryz.underlying33 (by omega)) rfl rfl ?_
  refine zab ?_
  refine zae ?_
  refine zah _ rfl (fun h => ?_) (fun h => ?_)
  ·cases h
  ·refine zad (zaa ?_)
   refine tx ?_
   refine zal (zbG 5 Tryz.underlying33 sz86) rfl rfl ⟨rfl, trivial⟩ ?_
   refine yM ?_
   refine zal (zbe 7 Tryz.underlying33 eo86 (zdJ) (by simp only [maxLen]; omega) (by omega) (show _ = n by omega) rfl) rfl rfl ⟨rfl, rfl, trivial⟩ ?_
   refine yP (zas (r := .row _)) ?_
   refine zab ?_
   refine zaf ?_
   refine fT (fun _ => 7) (.tmp _ _ _ _ rfl .nil) ?_ ?_
   ·exact rfl
   ·exact ⟨⟨rfl, rfl⟩, trivial⟩
theorem sgCopy_s (s : SG) (ok : s.OK) : Fn Tryz.prog 42 [.agg s.cells] (.agg [.p (.v (.bool s.lv)), .row 0, .p (.v (.string s.c.key)), .p (.v (.int .i64 s.c.port)), .row 1, .p (.v (.string s.at_)), .p (.v (.int .i64 s.err))]) [(0, .row 86 5 s.rest.length (s.rest.flatMap SE.pv)), (1, .row 49 5 s.c.ps.length (s.c.ps.flatMap PE.pv))] := by
 obtain ⟨lv, rest, c, at_, err⟩ := s
 obtain ⟨okr, hl, okc, haz, hkz⟩ := ok
 dsimp only at hl okc
 have hC := cfCopy_s c okc
 have hS := sclone_s rest hl
 obtain ⟨key, port, ps⟩ := c
 dsimp only at hC
 change Fn Tryz.prog _ [.agg [.p (.v (.string key)), .p (.v (.int .i64 port)), .p (.sl ps.length 5 (ps.flatMap PE.pv))]] _ _ at hC
 show Fn Tryz.prog _ [.agg (sgC lv rest.length (rest.flatMap SE.pv) key port ps.length (ps.flatMap PE.pv) at_ err)] (.agg [.p (.v (.bool lv)), .row 0, .p (.v (.string key)), .p (.v (.int .i64 port)), .row 1, .p (.v (.string at_)), .p (.v (.int .i64 err))]) [(0, .row 86 5 rest.length (rest.flatMap SE.pv)), (1, .row 49 5 ps.length (ps.flatMap PE.pv))]
 clear okc okr haz hkz hl
 generalize ps.flatMap PE.pv = L at *
 generalize ps.length = M at *
 generalize rest.flatMap SE.pv = R at *
 generalize rest.length = N at *
 refine zap Tryz.func42 rfl (Nat.le_of_ble_eq_true rfl) fun w0 A => ?_
 refine zaa ?_
 refine tx ?_
 refine zal (za2 (X := .agg _) 1 rfl) rfl rfl ⟨rfl, trivial⟩ ?_
 refine zal (zaU 2 zr35 rfl) rfl rfl ⟨rfl, trivial⟩ ?_
 refine zab ?_
 refine zaa ?_
 refine zav 4 (by kernel_rfl) ?_
 refine yF zc7 ?_
 refine yL Tryz.underlying33 ?_
 refine cS (fun _ => 105) (hS) Tryz.func84 ?_
 refine yF zcD ?_
 refine lN Tryz.underlying24 rfl sz24 rfl rfl ⟨rfl, trivial⟩ ?_
 refine cS (fun _ => 108) (hC) Tryz.func30 ?_
 refine yF zc7 ?_
 refine zal (zbp (Y := .row _) sz33 rfl (by first | exact Nat.eq_of_beq_eq_true rfl | (simp only [AV.cells, List.length_map]; first | assumption | omega)) (by first | exact Nat.le_of_ble_eq_true rfl | omega | (simp only [AV.cells, List.length_map]; omega)) (by first | (simp only [setR, AV.cells, List.take_succ_cons, List.take_zero, List.drop_succ_cons, List.drop_zero, List.drop_nil, List.take_nil, List.nil_append, List.cons_append, List.append_nil, List.length_cons, List.length_nil, Nat.reduceAdd, Nat.zero_add, Nat.add_zero]; rfl) | rfl)) rfl rfl ⟨rfl, trivial⟩ ?_
 refine yF zcD ?_
 refine zal (zbp (Y := .agg _) sz24 rfl (by first | exact Nat.eq_of_beq_eq_true rfl | (simp only [AV.cells, List.length_map]; first | assumption | omega)) (by first | exact Nat.le_of_ble_eq_true rfl | omega | (simp only [AV.cells, List.length_map]; omega)) (by first | (simp only [setR, AV.cells, List.take_succ_cons, List.take_zero, List.drop_succ_cons, List.drop_zero, List.drop_nil, List.take_nil, List.nil_append, List.cons_append, List.append_nil, List.length_cons, List.length_nil, Nat.reduceAdd, Nat.zero_add, Nat.add_zero]; rfl) | rfl)) rfl rfl ⟨rfl, trivial⟩ ?_
 refine zab ⟨by kernel_rfl, ?_⟩
 refine zaa ?_
 refine tx ?_
 refine lN Tryz.underlying35 rfl sz35 rfl rfl ⟨rfl, trivial⟩ ?_
 refine zal (zaA (Y := .agg _) sz35 rfl (by first | exact Nat.eq_of_beq_eq_true rfl | (simp only [AV.cells, List.length_map]; first | assumption | omega)) (Nat.eq_of_beq_eq_true rfl)) rfl rfl ⟨rfl, trivial⟩ ?_
 refine zab ?_
 refine zaf ?_
 refine fT (fun o => bif Nat.beq o 0 then 105 else 108) (.cellN _ _ _ _ _ _ _ _ _ rfl rfl Tryz.underlying35 rfl sz35 (by first | assumption | kernel_rfl) .nil) ?_ ?_
 ·exact rfl
 ·exact ⟨⟨rfl, rfl⟩, ⟨rfl, rfl⟩, trivial⟩
end Go.Proofs.YtgpleldhddpcgaaGreatDoor
/- table.numbers and table.Find, over data. -/
namespace Go.Proofs.YtgpleldhddpcgaaGreatDoor
open Go.RowKit Go.Sort
set_option linter.unusedVariables false
set_option linter.unusedSimpArgs false
set_option maxRecDepth 100000 in
theorem numbers_s (X : List AV) (a b c d : Int) (h5 : X[5]? = some (.p (.v (.int .i64 a)))) (h16 : X[16]? = some (.p (.v (.int .i64 b)))) (h27 : X[27]? = some (.p (.v (.int .i64 c)))) (h36 : X[36]? = some (.p (.v (.int .i64 d)))) :
  Fn Tryz.prog 80 [.agg X] (.agg [.p (.v (.int .i64 0)), .p (.v (.int .i64 a)), .p (.v (.int .i64 b)), .p (.v (.int .i64 c)), .p (.v (.int .i64 d))]) [] := by
 refine zap Tryz.func80 rfl (Nat.le_of_ble_eq_true rfl) fun w0 A => ?_
 refine zaa ?_
 refine zaw (by kernel_rfl) ?_
 (refine zal (za2 (X := .agg _) 1 rfl) rfl rfl ⟨rfl, trivial⟩ ?_)
 (refine zal (zaU 2 zr126 rfl) rfl rfl ⟨rfl, trivial⟩ ?_)
 refine zab ?_
 refine zaa ?_
 refine zaw (by kernel_rfl) ?_
 (refine zac (zag zbI rfl) rfl rfl ?_)
 (refine zac (zag fi76_0 rfl) rfl rfl ?_)
 (refine zac (zag zdL rfl) rfl rfl ?_)
 (refine zal (zat Tryz.underlying3 rfl (by first | rfl | assumption)) rfl rfl ⟨rfl, trivial⟩ ?_)
 (refine zac (zag zbI rfl) rfl rfl ?_)
 (refine zac (zag fi76_1 rfl) rfl rfl ?_)
 (refine zac (zag zdL rfl) rfl rfl ?_)
 (refine zal (zat Tryz.underlying3 rfl (by first | rfl | assumption)) rfl rfl ⟨rfl, trivial⟩ ?_)
 (refine zac (zag zbI rfl) rfl rfl ?_)
 (refine zac (zag fi76_2 rfl) rfl rfl ?_)
 (refine zac (zag zdL rfl) rfl rfl ?_)
 (refine zal (zat Tryz.underlying3 rfl (by first | rfl | assumption)) rfl rfl ⟨rfl, trivial⟩ ?_)
 (refine zac (zag zb1 rfl) rfl rfl ?_)
 (refine zac (zag zfy rfl) rfl rfl ?_)
 (refine zal (zat Tryz.underlying3 rfl (by first | rfl | assumption)) rfl rfl ⟨rfl, trivial⟩ ?_)
 (refine zac (zfO Tryz.underlying126 zr126 rfl sz3 rfl) rfl rfl ?_)
 (refine zal (zaA (Y := .agg _) sz126 rfl (by first | exact Nat.eq_of_beq_eq_true rfl | (simp only [AV.cells, List.length_map]; first | assumption | omega)) (Nat.eq_of_beq_eq_true rfl)) rfl rfl ⟨rfl, trivial⟩ ?_)
 refine zab ?_
 refine zaf ?_
 refine ⟨(by first | exact .inl rfl | exact .inr rfl), _, (fun o => o), (.cellN _ _ _ _ _ _ _ _ _ rfl rfl Tryz.underlying126 rfl sz126 (by first | assumption | kernel_rfl) .nil), ?_, rfl, ?_, rfl⟩
 ·kernel_rfl
 ·exact trivial
def idxI (n : Int) : List Int → Int
 | [] => -1
 | x :: xs => if n = x then 0 else if idxI n xs < 0 then -1 else idxI n xs + 1
/-- ints as data -/
def is (xs : List Int) : List PV := xs.map fun x => .v (.int .i64 x)
theorem is_at {xs : List Int} {k : Nat} (h : k < xs.length) : (is xs)[k]? = some (.v (.int .i64 xs[k])) := by simp [is, h]
theorem idxI_at {n : Int} : ∀ {xs : List Int} {k : Nat}, (hk : k < xs.length) → n = xs[k] → (∀ j, (hj : j < k) → n ≠ xs[j]) → idxI n xs = k
 | x :: xs, 0, _, h, _ => by
  have : n = x := by simpa using h
  simp [idxI, this]
 | x :: xs, k + 1, hk, h, hb => by
  have h0 : n ≠ x := by simpa using hb 0 (by omega)
  have ih := idxI_at (xs := xs) (k := k) (by simpa using hk) (by simpa using h) (fun j hj => by simpa using hb (j + 1) (by omega))
  simp only [idxI, if_neg h0, ih]
  rw [if_neg (by omega)]
  omega
theorem idxI_none {n : Int} : ∀ {xs : List Int}, (∀ j, (hj : j < xs.length) → n ≠ xs[j]) → idxI n xs = -1
 | [], _ => rfl
 | x :: xs, hb => by
  have h0 : n ≠ x := hb 0 (by simp)
  have ih := idxI_none (n := n) (xs := xs) (fun j hj => hb (j + 1) (by simpa using hj))
  simp [idxI, h0, ih]
set_option maxRecDepth 100000 in
theorem index_s (xs : List Int) (n : Int) (N : Nat) (hN : xs.length = N) (hm : N ≤ 100000) : Fn Tryz.prog 128 [.p (.sl N 1 (is xs)), .p (.v (.int .i64 n))] (.p (.v (.int .i64 (idxI n xs)))) [] := by
 refine zap Tryz.func128 rfl (Nat.le_of_ble_eq_true rfl) fun w0 A => ?_
 refine zaa ?_
 refine zaw (by kernel_rfl) ?_
 (refine zac (zas (r := .p _)) rfl rfl ?_)
 refine zab ?_
 refine zaa (zaa ?_)
 refine zaw (by kernel_rfl) ?_
 (refine zac (zaq (r := .p _)) rfl rfl ?_)
 (refine zac (zaC Tryz.underlying124) rfl rfl ?_)
 (refine zac (zaq (r := .p _)) rfl rfl ?_)
 refine zab ?_
 refine zaj ?_
 refine zaE (fun m st => ∃ k : Nat, m + k = N ∧ (∀ j, (hj : j < k) → (hj2 : j < xs.length) → n ≠ xs[j]) ∧ st = St.of [(0, .p (.sl N 1 (is xs))), (1, .p (.v (.int .i64 n))), (7, .p (.v (.int .i64 N))), (8, .p (.v (.int .i64 k)))] []) N ?_ ?_
 ·refine ⟨_, zaJ id _ _ ?_ ?_ rfl, 0, by omega, fun j hj => by omega, rfl⟩
  ·(repeat (first | exact trivial | (refine ⟨⟨(by first | rfl | (simp; done) | (simp; omega)), rfl⟩, ?_⟩)))
  ·exact trivial
 rintro m st ⟨k, hk, hb, rfl⟩
 refine zaa ?_
 refine zaw (by kernel_rfl) ?_
 (refine zac zaX rfl rfl ?_)
 refine zab ?_
 refine zaa ?_
 refine zah _ rfl (fun h => ?_) (fun h => ?_)
 ·have hlt : k < N := by simpa using h
  clear h
  have hx : k < xs.length := by omega
  have hat := is_at hx
  refine zad (zaa (zaj (zaa ?_)))
  refine zaw (by kernel_rfl) ?_
  (refine zac (zaq (r := .p _)) rfl rfl ?_)
  (refine zac (zas (r := .p _)) rfl rfl ?_)
  refine zab ?_
  refine zaa ?_
  refine zaw (by kernel_rfl) ?_
  (refine zac (zaq (r := .p _)) rfl rfl ?_)
  (refine zac (zaq (r := .p _)) rfl rfl ?_)
  (refine zac (zaq (r := .p _)) rfl rfl ?_)
  (refine zac (zao Tryz.underlying124 sz3 (by omega) (by omega) rfl) rfl rfl ?_)
  (refine zac (zbx Tryz.underlying3 rfl (by first | rfl | assumption | ((try simp only [List.getElem?_drop, List.getElem?_take, Int.toNat_natCast, Nat.mul_one, Nat.add_zero, Nat.zero_add]); first | assumption | rfl))) rfl rfl ?_)
  (refine zac zaF rfl rfl ?_)
  refine zab ?_
  refine zae ?_
  refine zah _ rfl (fun h => ?_) (fun h => ?_)
  ·have he : n = xs[k] := by simpa using h
   refine zaa ?_
   refine zaw (by kernel_rfl) ?_
   (refine zac (zaq (r := .p _)) rfl rfl ?_)
   (refine zac (zas (r := .p _)) rfl rfl ?_)
   refine zab ?_
   refine zaf (zaK (zam (zam (zaK (zam ?_)))))
   refine ⟨(by first | exact .inl rfl | exact .inr rfl), _, (fun o => o), (.tmp _ _ _ _ rfl .nil), ?_, rfl, ?_, rfl⟩
   ·rw [idxI_at hx he fun j hj => hb j hj (by omega)]; kernel_rfl
   ·exact trivial
  ·have he : n ≠ xs[k] := by simpa using h
   refine zad (za3 (zae ?_))
   refine zaw (by kernel_rfl) ?_
   (refine zac (za4 (by first | exact IntWalk.i64_in _ (by omega) | rfl)) rfl rfl ?_)
   (refine zac (zaq (r := .p _)) rfl rfl ?_)
   refine zab ?_
   refine zae ?_
   refine ⟨m - 1, by omega, _, zaJ id _ _ ?_ ?_ rfl, k + 1, by omega, fun j hj hj2 => ?_, rfl⟩
   ·(repeat (first | exact trivial | (refine ⟨⟨(by first | rfl | (simp; done) | (simp; omega)), rfl⟩, ?_⟩)))
   ·exact trivial
   ·by_cases e : j = k
    ·subst e; exact he
    ·exact hb j (by omega) hj2
 ·have hge : ¬ k < N := by simpa using h
  refine zaG (zaa ?_)
  refine zaw (by kernel_rfl) ?_
  (refine zac (zas (r := .p _)) rfl rfl ?_)
  refine zab ?_
  refine zaf ?_
  refine ⟨(by first | exact .inl rfl | exact .inr rfl), _, (fun o => o), (.tmp _ _ _ _ rfl .nil), ?_, rfl, ?_, rfl⟩
  ·rw [idxI_none fun j hj => hb j (by omega) hj]; kernel_rfl
  ·exact trivial
end Go.Proofs.YtgpleldhddpcgaaGreatDoor
