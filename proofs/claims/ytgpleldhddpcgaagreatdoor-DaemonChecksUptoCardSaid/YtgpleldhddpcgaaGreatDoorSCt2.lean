/- conf.Tree, the reference's ConfTree, over data. -/
import Derived.Test.YtgpleldhddpcgaaGreatDoorSTw9
import Derived.Test.YtgpleldhddpcgaaGreatDoorSSe
import Derived.Test.YtgpleldhddpcgaaGreatDoorSTw7
namespace Go.Proofs.YtgpleldhddpcgaaGreatDoor
open Go.RowKit Go.Sort
set_option linter.unusedVariables false
set_option linter.unusedSimpArgs false
set_option maxRecDepth 100000
set_option maxHeartbeats 4000000 in
theorem ctree_s (c : CF) (ok : c.OK) (h0 : cfE c = 0) : Fn Tryz.prog 7 [.agg c.cells] (.tup [.row 0, .p (.v (.int .i64 0))]) [(0, .row 55 4 (tOf (zaW c.ps c.ps.length)).list.length (nds (tOf (zaW c.ps c.ps.length)).list))] := by
 have hC := zgr c ok
 rw [h0] at hC
 have hg := zho h0
 obtain ⟨key, port, ps⟩ := c
 have hok := ok.ps
 dsimp only at hg hok
 change Fn Tryz.prog _ [.agg [.p (.v (.string key)), .p (.v (.int .i64 port)), .p (.sl ps.length 5 (ps.flatMap PE.pv))]] _ _ at hC
 show Fn Tryz.prog _ [.agg [.p (.v (.string key)), .p (.v (.int .i64 port)), .p (.sl ps.length 5 (ps.flatMap PE.pv))]] _ [(0, .row 55 4 (tOf (zaW ps ps.length)).list.length (nds (tOf (zaW ps ps.length)).list))]
 have hok1 : ∀ p ∈ ps, p.OK := fun p hp => (hok p hp).1
 have hall := zfV hg hok1
 have h6 := hg.n6
 clear ok h0
 refine zap Tryz.func7 rfl (Nat.le_of_ble_eq_true rfl) fun w0 A => ?_
 refine zaa ?_
 refine tx ?_
 refine zal (za2 (X := .agg _) 1 rfl) rfl rfl ⟨rfl, trivial⟩ ?_
 refine yA ?_
 refine yA ?_
 refine zab ?_
 refine zaa (zaa ?_)
 refine tx ?_
 refine lN Tryz.underlying24 rfl sz24 rfl rfl ⟨rfl, trivial⟩ ?_
 refine cS (fun n => 11 + 1000 * n) (hC) Tryz.func20 ?_
 refine yA ?_
 refine zab ?_
 refine zaa ?_
 refine tx ?_
 refine yM ?_
 refine yP zea ?_
 refine zab ?_
 refine zae ?_
 refine zah _ rfl (fun h => ?_) (fun h => ?_)
 ·cases h
 refine zad (zaa ?_)
 refine tx ?_
 refine yA ?_
 refine zab ?_
 refine zae (zcu (zdk 5 100 55 4 rfl rfl) ?_)
 refine zaa (zaa ?_)
 refine tx ?_
 refine yF zbO ?_
 refine yL Tryz.underlying22 ?_
 refine yP (zaC Tryz.underlying22) ?_
 refine yM ?_
 refine zab ?_
 refine zaj ?_
 refine zaE (fun m st => ∃ i : Nat, m + i = ps.length ∧ st = St.of [(5, .row 100), (16, .p (.sl ps.length 5 (ps.flatMap PE.pv))), (17, .p (.v (.int .i64 ps.length))), (18, .p (.v (.int .i64 i)))] [(100, .row 55 4 (tOf (zaW ps i)).list.length (nds (tOf (zaW ps i)).list))]) ps.length ?_ ?_
 ·refine ⟨_, zaJ id _ _ ?_ ?_ rfl, 0, by omega, rfl⟩
  ·(repeat (first | exact trivial | (refine ⟨⟨(by first | rfl | (simp; done) | (simp; omega)), rfl⟩, ?_⟩)))
  ·rw [zeF]
   exact ⟨⟨rfl, rfl⟩, trivial⟩
 rintro m st ⟨i, hi, rfl⟩
 refine zaa ?_
 refine tx ?_
 refine yP zaX ?_
 refine zab ?_
 refine zaa ?_
 refine zah _ rfl (fun h => ?_) (fun h => ?_)
 ·have hlt : i < ps.length := by simp at h; omega
  clear h
  obtain ⟨p, hp⟩ : ∃ p, ps[i]? = some p := ⟨ps[i], List.getElem?_eq_getElem hlt⟩
  have hch := zaN (f := PE.pv) (k := 5) (fun _ => rfl) hp
  have hle := zaP (f := PE.pv) (k := 5) (fun _ => rfl) hlt
  have hmem := List.mem_of_getElem? hp
  have hpn := (hok p hmem).2
  have hin := tOf_in hg hok1 hp (hall i (by omega))
  have hnx := zeG hp
  have hkey := (zc1 (hg.pe p hmem)).2
  have h8 := (zc1 (hg.pe p hmem)).1
  have hBl := zdX hg (Nat.le_of_lt hlt)
  have hnet := hg.net hmem
  have hnok := (hok1 p hmem).nets
  generalize ps.flatMap PE.pv = L at *
  refine zad (zaa (zaj (zaa ?_)))
  refine tx ?_
  refine zac (zao Tryz.underlying22 sz49 (by omega) (by omega) rfl) rfl rfl ?_
  refine zac (zaz Tryz.underlying49 rfl sz49 (by first | omega | (simp; done) | (simp; omega)) (hch)) rfl rfl ?_
  refine zal (zaU 7 zr49 rfl) rfl rfl ⟨rfl, trivial⟩ ?_
  refine zal (zaA (Y := .agg p.cells) sz49 rfl rfl (Nat.eq_of_beq_eq_true rfl)) rfl rfl ⟨rfl, trivial⟩ ?_
  refine zab ?_
  refine zaa ?_
  refine tx ?_
  refine yF zcj ?_
  refine yL Tryz.underlying47 ?_
  refine yP (zaC Tryz.underlying47) ?_
  refine yM ?_
  refine zab ?_
  refine zaj ?_
  refine zaE (fun m' st => ∃ j : Nat, m' + j = p.nets.length ∧ st = St.of [(5, .row 100), (7, .ref 7 0), (16, .p (.sl ps.length 5 L)), (17, .p (.v (.int .i64 ps.length))), (18, .p (.v (.int .i64 i))), (23, .p (.sl p.nets.length 2 (p.nets.flatMap ntC))), (24, .p (.v (.int .i64 p.nets.length))), (25, .p (.v (.int .i64 j)))] [(7, .box 49 p.cells), (100, .row 55 4 (tOf (zaW ps i ++ zbq p j)).list.length (nds (tOf (zaW ps i ++ zbq p j)).list))]) p.nets.length ?_ ?_
  ·refine ⟨_, zaJ id _ _ ?_ ?_ rfl, 0, by omega, rfl⟩
   ·(repeat (first | exact trivial | (refine ⟨⟨(by first | rfl | (simp; done) | (simp; omega)), rfl⟩, ?_⟩)))
   ·rw [zeD, List.append_nil]
    exact ⟨⟨rfl, rfl⟩, ⟨rfl, rfl⟩, trivial⟩
  rintro m' st ⟨j, hj, rfl⟩
  refine zaa ?_
  refine tx ?_
  refine yP zaX ?_
  refine zab ?_
  refine zaa ?_
  refine zah _ rfl (fun h => ?_) (fun h => ?_)
  ·have hlj : j < p.nets.length := by simp at h; omega
   clear h
   obtain ⟨q, hq⟩ : ∃ q, p.nets[j]? = some q := ⟨p.nets[j], List.getElem?_eq_getElem hlj⟩
   have hch2 := zaN (f := ntC) (k := 2) (fun _ => rfl) hq
   have hle2 := zaP (f := ntC) (k := 2) (fun _ => rfl) hlj
   have hqm := List.mem_of_getElem? hq
   have hq0 := hnok q hqm
   have hqf := hnet q hqm
   have hTM := hin j (by omega)
   have hML : (zaW ps i ++ zbq p j).length ≤ 1000 := by rw [List.length_append, zfh p (by omega)]; omega
   have hTok := hTM.ok hML
   obtain ⟨hE, hTo⟩ := trieE_list hTok hTM.v hTM.s
   have hTl := hTM.l
   have hPut := Put_s (tOf (zaW ps i ++ zbq p j)).list hTok (by omega) ⟨q.1, q.2, p.key, 1⟩ ⟨hq0.1, hq0.2, by have := zfi hq0.1 hq0.2 hqf; show (-9223372036854775808 : Int) ≤ q.2; omega, by have := zfi hq0.1 hq0.2 hqf; show q.2 ≤ (9223372036854775807 : Int); omega, by show (-9223372036854775808 : Int) ≤ 1; omega, by show (1 : Int) ≤ 9223372036854775807; omega, key_size hkey⟩
   have hPE : putE (tOf (zaW ps i ++ zbq p j)).list ⟨q.1, q.2, p.key, 1⟩ = 0 := by
    unfold putE
    rw [if_neg (by rw [hE]; simp), if_neg (by show ¬ zax q.1 q.2 ≠ 0; rw [hqf]; simp), if_neg (key_own hkey)]
   have hPL : putL (tOf (zaW ps i ++ zbq p j)).list ⟨q.1, q.2, p.key, 1⟩ = (tOf (zaW ps i ++ zbq p (j + 1))).list := by
    rw [zeE hq, ← List.append_assoc, tOf_snoc]
    unfold putL
    rw [hTo]
    rfl
   rw [hPE, hPL] at hPut
   rw [(zgb []).1, (zgb (tOf (zaW ps i ++ zbq p (j + 1))).list).2] at hPut
   have hv := zdZ (tOf (zaW ps i ++ zbq p (j + 1))).list
   clear hPE hPL hTo hE hTl hTok hTM hML
   obtain ⟨a, b⟩ := q
   dsimp only at hPut
   change Fn Tryz.prog _ [.p (.sl (tOf (zaW ps i ++ zbq p j)).list.length 4 (nds (tOf (zaW ps i ++ zbq p j)).list)), .agg [.p (.v (.int .u32 a)), .p (.v (.int .i64 b))], .p (.v (.string p.key))] _ _ at hPut
   generalize hN1 : nds (tOf (zaW ps i ++ zbq p (j + 1))).list = N1 at *
   generalize hn1 : (tOf (zaW ps i ++ zbq p (j + 1))).list.length = n1 at *
   generalize nds (tOf (zaW ps i ++ zbq p j)).list = N0 at *
   generalize (tOf (zaW ps i ++ zbq p j)).list.length = n0 at *
   generalize hNL : p.nets.flatMap ntC = NL at *
   refine zad (zaa (zaj (zaa ?_)))
   refine tx ?_
   refine zac (zao Tryz.underlying47 sz52 (by omega) (by omega) rfl) rfl rfl ?_
   refine zac (zaz Tryz.underlying52 rfl sz52 (by first | omega | (simp; done) | (simp; omega)) (hch2)) rfl rfl ?_
   refine zal (zaU 9 zr52 rfl) rfl rfl ⟨rfl, trivial⟩ ?_
   refine zal (zaA (Y := .agg [.p (.v (.int .u32 a)), .p (.v (.int .i64 b))]) sz52 rfl rfl (Nat.eq_of_beq_eq_true rfl)) rfl rfl ⟨rfl, trivial⟩ ?_
   refine zab ?_
   refine zae ?_
   refine tx ?_
   refine yP (zaq (r := .row _)) ?_
   refine lN Tryz.underlying52 rfl sz52 rfl rfl ⟨rfl, trivial⟩ ?_
   refine yF zbJ ?_
   refine yL Tryz.underlying9 ?_
   refine zcv (fun n => 34 + 1000 * n) (hPut) rfl rfl Tryz.func21 rfl rfl (by first | rfl | simp [AV.noSl, AV.noSlL, AObj.noSl, hv]) (by first | rfl | simp [AV.noSl, AV.noSlL, AObj.noSl, hv]) rfl rfl rfl (by first | exact trivial | exact ⟨rfl, trivial⟩ | exact ⟨rfl, rfl, trivial⟩ | exact ⟨rfl, rfl, rfl, rfl, rfl, trivial⟩) rfl rfl rfl ?_
   refine yP (zaq (r := .tup _)) ?_
   refine yP (zar rfl) ?_
   refine yP (zar rfl) ?_
   refine yP (zas (r := .row _)) ?_
   refine zab ?_
   refine za3 (zae ?_)
   refine tx ?_
   refine zac (za4 (by first | exact IntWalk.i64_in _ (by omega) | rfl)) rfl rfl ?_
   refine yM ?_
   refine zab ?_
   refine zae ?_
   refine ⟨m' - 1, by omega, _, zaJ (fun o => bif Nat.beq o 100 then 34 else o) _ _ ?_ ?_ rfl, j + 1, by omega, rfl⟩
   ·(repeat (first | exact trivial | (refine ⟨⟨(by first | rfl | (simp; done) | (simp; omega)), rfl⟩, ?_⟩)))
   ·exact ⟨⟨rfl, rfl⟩, ⟨by rw [hn1, hN1]; rfl, rfl⟩, trivial⟩
  have hge : j = p.nets.length := by simp at h; omega
  clear h
  subst hge
  rw [← hnx]
  refine zaG (zb3 (zb3 (zdo (za3 (zae ?_)))))
  refine tx ?_
  refine zac (za4 (by first | exact IntWalk.i64_in _ (by omega) | rfl)) rfl rfl ?_
  refine yM ?_
  refine zab ?_
  refine zae ?_
  refine ⟨m - 1, by omega, _, zaJ id _ _ ?_ ?_ rfl, i + 1, by omega, rfl⟩
  ·(repeat (first | exact trivial | (refine ⟨⟨(by first | rfl | (simp; done) | (simp; omega)), rfl⟩, ?_⟩)))
  ·exact ⟨⟨rfl, rfl⟩, trivial⟩
 have hge : i = ps.length := by simp at h; omega
 clear h
 subst hge
 refine zaG (zaa ?_)
 refine tx ?_
 refine yP (zaq (r := .row _)) ?_
 refine yP (zas (r := .row _)) ?_
 refine yA ?_
 refine zab ?_
 refine zaf ?_
 refine fT (fun _ => 100) (.tmp _ _ _ _ rfl (.tmp _ _ _ _ rfl .nil)) ?_ ?_
 ·exact rfl
 ·exact ⟨⟨rfl, rfl⟩, trivial⟩
theorem ones_push (M : List (Key × Own)) (a b : Int) (o : Own) (h : one (nkey (a, b), o) = ⟨a, b, o, 1⟩) : nds (M.map one) ++ [.v (.int .u32 a), .v (.int .i64 b), .v (.string o), .v (.int .i64 1)] = nds ((M ++ [(nkey (a, b), o)]).map one) := by
 rw [List.map_append, zga, List.map_cons, h]
 rfl
set_option maxHeartbeats 4000000 in
theorem rtree_s (c : CF) (ok : c.OK) (h0 : cfE c = 0) : Fn Tryz.prog 8 [.agg c.cells] (.tup [.row 0, .p (.v (.int .i64 0))]) [(0, .row 55 4 (tOf (zaW c.ps c.ps.length)).list.length (nds (tOf (zaW c.ps c.ps.length)).list))] := by
 have hC := zf7 c ok
 rw [h0] at hC
 have hg := zho h0
 obtain ⟨key, port, ps⟩ := c
 have hok := ok.ps
 dsimp only at hg hok
 change Fn Tryz.prog _ [.agg [.p (.v (.string key)), .p (.v (.int .i64 port)), .p (.sl ps.length 5 (ps.flatMap PE.pv))]] _ _ at hC
 show Fn Tryz.prog _ [.agg [.p (.v (.string key)), .p (.v (.int .i64 port)), .p (.sl ps.length 5 (ps.flatMap PE.pv))]] _ [(0, .row 55 4 (tOf (zaW ps ps.length)).list.length (nds (tOf (zaW ps ps.length)).list))]
 have hok1 : ∀ p ∈ ps, p.OK := fun p hp => (hok p hp).1
 have hall := zfV hg hok1
 have h6 := hg.n6
 clear ok h0
 refine zap Tryz.func8 rfl (Nat.le_of_ble_eq_true rfl) fun w0 A => ?_
 refine zaa ?_
 refine tx ?_
 refine zal (za2 (X := .agg _) 1 rfl) rfl rfl ⟨rfl, trivial⟩ ?_
 refine yA ?_
 refine yA ?_
 refine zab ?_
 refine zaa (zaa ?_)
 refine tx ?_
 refine lN Tryz.underlying24 rfl sz24 rfl rfl ⟨rfl, trivial⟩ ?_
 refine cS (fun n => 11 + 1000 * n) (hC) Tryz.func22 ?_
 refine yA ?_
 refine zab ?_
 refine zaa ?_
 refine tx ?_
 refine yM ?_
 refine yP zea ?_
 refine zab ?_
 refine zae ?_
 refine zah _ rfl (fun h => ?_) (fun h => ?_)
 ·cases h
 refine zad (zaa ?_)
 refine tx ?_
 refine yA ?_
 refine zab ?_
 refine zae (zcu (zdk 5 100 55 4 rfl rfl) ?_)
 refine zaa (zaa ?_)
 refine tx ?_
 refine yF zbO ?_
 refine yL Tryz.underlying22 ?_
 refine yP (zaC Tryz.underlying22) ?_
 refine yM ?_
 refine zab ?_
 refine zaj ?_
 refine zaE (fun m st => ∃ i : Nat, m + i = ps.length ∧ st = St.of [(5, .row 100), (16, .p (.sl ps.length 5 (ps.flatMap PE.pv))), (17, .p (.v (.int .i64 ps.length))), (18, .p (.v (.int .i64 i)))] [(100, .row 55 4 (zaW ps i).length (nds ((zaW ps i).map one)))]) ps.length ?_ ?_
 ·refine ⟨_, zaJ id _ _ ?_ ?_ rfl, 0, by omega, rfl⟩
  ·(repeat (first | exact trivial | (refine ⟨⟨(by first | rfl | (simp; done) | (simp; omega)), rfl⟩, ?_⟩)))
  ·rw [zeF]
   exact ⟨⟨rfl, rfl⟩, trivial⟩
 rintro m st ⟨i, hi, rfl⟩
 refine zaa ?_
 refine tx ?_
 refine yP zaX ?_
 refine zab ?_
 refine zaa ?_
 refine zah _ rfl (fun h => ?_) (fun h => ?_)
 ·have hlt : i < ps.length := by simp at h; omega
  clear h
  obtain ⟨p, hp⟩ : ∃ p, ps[i]? = some p := ⟨ps[i], List.getElem?_eq_getElem hlt⟩
  have hch := zaN (f := PE.pv) (k := 5) (fun _ => rfl) hp
  have hle := zaP (f := PE.pv) (k := 5) (fun _ => rfl) hlt
  have hmem := List.mem_of_getElem? hp
  have hpn := (hok p hmem).2
  have hnx := zeG hp
  have h8 := (zc1 (hg.pe p hmem)).1
  have hBl := zdX hg (Nat.le_of_lt hlt)
  have hnet := hg.net hmem
  have hnok := (hok1 p hmem).nets
  generalize ps.flatMap PE.pv = L at *
  refine zad (zaa (zaj (zaa ?_)))
  refine tx ?_
  refine zac (zao Tryz.underlying22 sz49 (by omega) (by omega) rfl) rfl rfl ?_
  refine zac (zaz Tryz.underlying49 rfl sz49 (by first | omega | (simp; done) | (simp; omega)) (hch)) rfl rfl ?_
  refine zal (zaU 7 zr49 rfl) rfl rfl ⟨rfl, trivial⟩ ?_
  refine zal (zaA (Y := .agg p.cells) sz49 rfl rfl (Nat.eq_of_beq_eq_true rfl)) rfl rfl ⟨rfl, trivial⟩ ?_
  refine zab ?_
  refine zaa ?_
  refine tx ?_
  refine yF zcj ?_
  refine yL Tryz.underlying47 ?_
  refine yP (zaC Tryz.underlying47) ?_
  refine yM ?_
  refine zab ?_
  refine zaj ?_
  refine zaE (fun m' st => ∃ j : Nat, m' + j = p.nets.length ∧ st = St.of [(5, .row 100), (7, .ref 7 0), (16, .p (.sl ps.length 5 L)), (17, .p (.v (.int .i64 ps.length))), (18, .p (.v (.int .i64 i))), (23, .p (.sl p.nets.length 2 (p.nets.flatMap ntC))), (24, .p (.v (.int .i64 p.nets.length))), (25, .p (.v (.int .i64 j)))] [(7, .box 49 p.cells), (100, .row 55 4 ((zaW ps i).length + j) (nds ((zaW ps i ++ zbq p j).map one)))]) p.nets.length ?_ ?_
  ·refine ⟨_, zaJ id _ _ ?_ ?_ rfl, 0, by omega, rfl⟩
   ·(repeat (first | exact trivial | (refine ⟨⟨(by first | rfl | (simp; done) | (simp; omega)), rfl⟩, ?_⟩)))
   ·rw [zeD, List.append_nil]
    exact ⟨⟨rfl, rfl⟩, ⟨rfl, rfl⟩, trivial⟩
  rintro m' st ⟨j, hj, rfl⟩
  refine zaa ?_
  refine tx ?_
  refine yP zaX ?_
  refine zab ?_
  refine zaa ?_
  refine zah _ rfl (fun h => ?_) (fun h => ?_)
  ·have hlj : j < p.nets.length := by simp at h; omega
   clear h
   obtain ⟨q, hq⟩ : ∃ q, p.nets[j]? = some q := ⟨p.nets[j], List.getElem?_eq_getElem hlj⟩
   have hch2 := zaN (f := ntC) (k := 2) (fun _ => rfl) hq
   have hle2 := zaP (f := ntC) (k := 2) (fun _ => rfl) hlj
   have hqm := List.mem_of_getElem? hq
   have hq0 := hnok q hqm
   have hqf := hnet q hqm
   have hpx := zeE hq
   have hcl : (nds ((zaW ps i ++ zbq p j).map one)).length = ((zaW ps i).length + j) * 4 := by rw [zdY, List.length_map, List.length_append, zfh p (by omega)]
   obtain ⟨a, b⟩ := q
   have hone : one (nkey (a, b), p.key) = ⟨a, b, p.key, 1⟩ := by
    obtain ⟨_, k1, k2⟩ := zfi hq0.1 hq0.2 hqf
    dsimp only at k1 k2
    unfold one
    dsimp only
    rw [← k1, ← k2]
   have hpush := ones_push (zaW ps i ++ zbq p j) a b p.key hone
   rw [List.append_assoc (zaW ps i), ← hpx] at hpush
   generalize nds ((zaW ps i ++ zbq p j).map one) = N0 at *
   generalize hNL : p.nets.flatMap ntC = NL at *
   refine zad (zaa (zaj (zaa ?_)))
   refine tx ?_
   refine zac (zao Tryz.underlying47 sz52 (by omega) (by omega) rfl) rfl rfl ?_
   refine zac (zaz Tryz.underlying52 rfl sz52 (by first | omega | (simp; done) | (simp; omega)) (hch2)) rfl rfl ?_
   refine zal (zaU 9 zr52 rfl) rfl rfl ⟨rfl, trivial⟩ ?_
   refine zal (zaA (Y := .agg [.p (.v (.int .u32 a)), .p (.v (.int .i64 b))]) sz52 rfl rfl (Nat.eq_of_beq_eq_true rfl)) rfl rfl ⟨rfl, trivial⟩ ?_
   refine zab ?_
   refine zae ?_
   refine tx ?_
   refine yP (zaq (r := .row _)) ?_
   refine lN Tryz.underlying52 rfl sz52 rfl rfl ⟨rfl, trivial⟩ ?_
   refine yF zbJ ?_
   refine yL Tryz.underlying9 ?_
   refine yP (zaR pl55 zr55 rfl rfl) ?_
   refine zal (xs := [.agg [.p (.v (.int .u32 a)), .p (.v (.int .i64 b)), .p (.v (.string p.key)), .p (.v (.int .i64 1))]]) (zaO (es := [.p (.v (.int .u32 a)), .p (.v (.int .i64 b)), .p (.v (.string p.key)), .p (.v (.int .i64 1))]) (cs := [.v (.int .u32 a), .v (.int .i64 b), .v (.string p.key), .v (.int .i64 1)]) 34 Tryz.underlying25 sz55 zc55 (Nat.le_of_ble_eq_true rfl) (Nat.le_of_ble_eq_true rfl) rfl (by kernel_rfl) (by kernel_rfl) (by kernel_rfl) (Nat.le_of_ble_eq_true rfl)) (by first | rfl | kernel_rfl) rfl ⟨rfl, trivial⟩ ?_
   refine zal (zbe 35 Tryz.underlying25 eo55 (zbX) (by simp only [maxLen]; omega) (by omega) rfl rfl) rfl rfl ⟨rfl, rfl, rfl, trivial⟩ ?_
   refine yP (zas (r := .row _)) ?_
   refine zab ?_
   refine za3 (zae ?_)
   refine tx ?_
   refine zac (za4 (by first | exact IntWalk.i64_in _ (by omega) | rfl)) rfl rfl ?_
   refine yM ?_
   refine zab ?_
   refine zae ?_
   refine ⟨m' - 1, by omega, _, zaJ (fun o => bif Nat.beq o 100 then 35 else o) _ _ ?_ ?_ rfl, j + 1, by omega, rfl⟩
   ·(repeat (first | exact trivial | (refine ⟨⟨(by first | rfl | (simp; done) | (simp; omega)), rfl⟩, ?_⟩)))
   ·exact ⟨⟨rfl, rfl⟩, ⟨by rw [← hpush]; rfl, rfl⟩, trivial⟩
  have hge : j = p.nets.length := by simp at h; omega
  clear h
  subst hge
  rw [← hnx]
  refine zaG (zb3 (zb3 (zdo (za3 (zae ?_)))))
  refine tx ?_
  refine zac (za4 (by first | exact IntWalk.i64_in _ (by omega) | rfl)) rfl rfl ?_
  refine yM ?_
  refine zab ?_
  refine zae ?_
  refine ⟨m - 1, by omega, _, zaJ id _ _ ?_ ?_ rfl, i + 1, by omega, rfl⟩
  ·(repeat (first | exact trivial | (refine ⟨⟨(by first | rfl | (simp; done) | (simp; omega)), rfl⟩, ?_⟩)))
  ·refine ⟨⟨?_, rfl⟩, trivial⟩
   rw [show (zaW ps (i + 1)).length = (zaW ps i).length + p.nets.length by rw [hnx, List.length_append, zfh p (Nat.le_refl _)]]
   rfl
 have hge : i = ps.length := by simp at h; omega
 clear h
 subst hge
 have hT := hall ps.length (Nat.le_refl _)
 have hfew := zdX hg (Nat.le_refl ps.length)
 have hG := grown_s (zaW ps ps.length).length (zaW ps ps.length) (Nat.le_refl _) hT.k (by omega)
 rw [show (zby (zaW ps ps.length).length (zaW ps ps.length)).map toND = (tOf (zaW ps ps.length)).list from hT.grown] at hG
 have hcl : (nds ((zaW ps ps.length).map one)).length = (zaW ps ps.length).length * 4 := by rw [zdY, List.length_map]
 have hv := zdZ (tOf (zaW ps ps.length)).list
 generalize nds (tOf (zaW ps ps.length)).list = N1 at *
 generalize (tOf (zaW ps ps.length)).list.length = n1 at *
 generalize nds ((zaW ps ps.length).map one) = N0 at *
 generalize (zaW ps ps.length).length = n0 at *
 refine zaG (zaa ?_)
 refine tx ?_
 refine yP (zaq (r := .row _)) ?_
 refine zcv (fun n => 39 + 1000 * n) (hG) rfl rfl Tryz.func23 rfl rfl (by first | rfl | simp [AV.noSl, AV.noSlL, AObj.noSl, hv]) (by first | rfl | simp [AV.noSl, AV.noSlL, AObj.noSl, hv]) rfl rfl rfl (by first | exact trivial | exact ⟨rfl, trivial⟩ | exact ⟨rfl, rfl, trivial⟩ | exact ⟨rfl, rfl, rfl, rfl, rfl, trivial⟩) rfl rfl rfl ?_
 refine yP (zas (r := .row _)) ?_
 refine yA ?_
 refine zab ?_
 refine zaf ?_
 refine fT (fun _ => 39) (.tmp _ _ _ _ rfl (.tmp _ _ _ _ rfl .nil)) ?_ ?_
 ·exact rfl
 ·exact ⟨⟨rfl, rfl⟩, trivial⟩
end Go.Proofs.YtgpleldhddpcgaaGreatDoor
