/- conf.Tree, the reference's ConfTree, over data. -/
import Derived.Test.YtbjdjclkbjpebaaGreatDoorSTw9
import Derived.Test.YtbjdjclkbjpebaaGreatDoorSBt2
import Derived.Test.YtbjdjclkbjpebaaGreatDoorSDm1
namespace Go.Proofs.YtbjdjclkbjpebaaGreatDoor
open Tryz
open Go.RowKit Go.Sort
set_option maxHeartbeats 16000000
set_option linter.unusedVariables false
set_option linter.unusedSimpArgs false
set_option maxRecDepth 100000
theorem ctree_s (c : CF) (ok : c.OK) (h0 : cfE c = 0) : Fn prog 27 [.agg c.cells] (.tup [.row 0, .p (.v (.int .i64 0))]) [(0, .row 90 4 (tOf (zaD c.ps c.ps.length)).list.length (nds (tOf (zaD c.ps c.ps.length)).list))] := by
 have hC := zhc c ok
 rw [h0] at hC
 have hg := zhb h0
 obtain ⟨key, port, ps⟩ := c
 have hok := ok.ps
 dsimp only at hg hok
 change Fn prog _ [.agg [.p (.v (.string key)), .p (.v (.int .i64 port)), .p (.sl ps.length 5 (ps.flatMap PE.pv))]] _ _ at hC
 refine jc8 ?_
 have hok1 : ∀ p ∈ ps, p.OK := fun p hp => (hok p hp).1
 have hall := zgx hg hok1
 have h6 := hg.n6
 clear ok h0
 refine fnI fun w0 A => ?_
 refine G [10] ?_
 refine cK hC ?_
 refine G [5, 1, 1, 9, 0] ?_
 refine cX (fun h => ?_) fun h => ?_
 ·cases h
 refine jct ?_
 refine za8 (zco 5 100 90 4 rfl rfl) ?_
 refine G [9] ?_
 refine zag (fun m st => ∃ i : Nat, m + i = ps.length ∧ st = St.of [(5, .row 100), (16, .p (.sl ps.length 5 (ps.flatMap PE.pv))), (17, .p (.v (.int .i64 ps.length))), (18, .p (.v (.int .i64 i)))] [(100, .row 90 4 (tOf (zaD ps i)).list.length (nds (tOf (zaD ps i)).list))]) ps.length ?_ ?_
 ·exact jbg
 rintro m st ⟨i, hi, rfl⟩
 refine G [5] ?_
 refine cX (fun h => ?_) fun h => ?_
 ·have hlt : i < ps.length := by simp at h; omega
  clear h
  obtain ⟨p, hp⟩ : ∃ p, ps[i]? = some p := ⟨ps[i], List.getElem?_eq_getElem hlt⟩
  have hch := zar (f := PE.pv) (k := 5) (fun _ => rfl) hp
  have hle := zas (f := PE.pv) (k := 5) (fun _ => rfl) hlt
  have hmem := List.mem_of_getElem? hp
  have hpn := (hok p hmem).2
  have hin := tOf_in hg hok1 hp (hall i (by omega))
  have hnx := zeW hp
  have hkey := (zdo (hg.pe p hmem)).2
  have h8 := (zdo (hg.pe p hmem)).1
  have hBl := zd9 hg (Nat.le_of_lt hlt)
  have hnet := hg.net hmem
  have hnok := (hok1 p hmem).nets
  generalize ps.flatMap PE.pv = L at *
  refine G [8] ?_
  refine jcQ ?_
  refine G [9] ?_
  refine zag (fun m' st => ∃ j : Nat, m' + j = p.nets.length ∧ st = St.of [(5, .row 100), (7, .ref 7 0), (16, .p (.sl ps.length 5 L)), (17, .p (.v (.int .i64 ps.length))), (18, .p (.v (.int .i64 i))), (23, .p (.sl p.nets.length 2 (p.nets.flatMap ntC))), (24, .p (.v (.int .i64 p.nets.length))), (25, .p (.v (.int .i64 j)))] [(7, .box 84 p.cells), (100, .row 90 4 (tOf (zaD ps i ++ zbi p j)).list.length (nds (tOf (zaD ps i ++ zbi p j)).list))]) p.nets.length ?_ ?_
  ·exact jba
  rintro m' st ⟨j, hj, rfl⟩
  refine G [5] ?_
  refine cX (fun h => ?_) fun h => ?_
  ·have hlj : j < p.nets.length := by simp at h; omega
   clear h
   obtain ⟨q, hq⟩ : ∃ q, p.nets[j]? = some q := ⟨p.nets[j], List.getElem?_eq_getElem hlj⟩
   have hch2 := zar (f := ntC) (k := 2) (fun _ => rfl) hq
   have hle2 := zas (f := ntC) (k := 2) (fun _ => rfl) hlj
   have hqm := List.mem_of_getElem? hq
   have hq0 := hnok q hqm
   have hqf := hnet q hqm
   have hTM := hin j (by omega)
   have hML : (zaD ps i ++ zbi p j).length ≤ 1000 := by rw [List.length_append, zfH p (by omega)]; omega
   have hTok := hTM.ok hML
   obtain ⟨hE, hTo⟩ := trieE_list hTok hTM.v hTM.s
   have hTl := hTM.l
   have hPut := Put_s (tOf (zaD ps i ++ zbi p j)).list hTok (by omega) ⟨q.1, q.2, p.key, 1⟩ ⟨hq0.1, hq0.2, by have := zfI hq0.1 hq0.2 hqf; show (-9223372036854775808 : Int) ≤ q.2; omega, by have := zfI hq0.1 hq0.2 hqf; show q.2 ≤ (9223372036854775807 : Int); omega, by show (-9223372036854775808 : Int) ≤ 1; omega, by show (1 : Int) ≤ 9223372036854775807; omega, zil hkey⟩
   have hPE : putE (tOf (zaD ps i ++ zbi p j)).list ⟨q.1, q.2, p.key, 1⟩ = 0 := by
    unfold putE
    rw [if_neg (by rw [hE]; simp), if_neg (by show ¬ zai q.1 q.2 ≠ 0; rw [hqf]; simp), if_neg (key_own hkey)]
   have hPL : putL (tOf (zaD ps i ++ zbi p j)).list ⟨q.1, q.2, p.key, 1⟩ = (tOf (zaD ps i ++ zbi p (j + 1))).list := by
    rw [zeU hq, ← List.append_assoc, tOf_snoc]
    unfold putL
    rw [hTo]
    rfl
   rw [hPE, hPL] at hPut
   rw [(zgS []).1, (zgS (tOf (zaD ps i ++ zbi p (j + 1))).list).2] at hPut
   have hv := zec (tOf (zaD ps i ++ zbi p (j + 1))).list
   clear hPE hPL hTo hE hTl hTok hTM hML
   obtain ⟨a, b⟩ := q
   dsimp only at hPut
   change Fn prog _ [.p (.sl (tOf (zaD ps i ++ zbi p j)).list.length 4 (nds (tOf (zaD ps i ++ zbi p j)).list)), .agg [.p (.v (.int .u32 a)), .p (.v (.int .i64 b))], .p (.v (.string p.key))] _ _ at hPut
   generalize hN1 : nds (tOf (zaD ps i ++ zbi p (j + 1))).list = N1 at *
   generalize hn1 : (tOf (zaD ps i ++ zbi p (j + 1))).list.length = n1 at *
   generalize nds (tOf (zaD ps i ++ zbi p j)).list = N0 at *
   generalize (tOf (zaD ps i ++ zbi p j)).list.length = n0 at *
   generalize hNL : p.nets.flatMap ntC = NL at *
   refine G [8] ?_
   refine jdA (zaf (Y := .agg [.p (.v (.int .u32 a)), .p (.v (.int .i64 b))]) sz88 rfl rfl (Nat.eq_of_beq_eq_true rfl)) ?_
   refine G [6] ?_
   refine zaR (fun n => 34 + 1000 * n) (hPut) rfl rfl func62 rfl rfl (by first | rfl | simp [AV.noSl, AV.noSlL, AObj.noSl, hv]) (by first | rfl | simp [AV.noSl, AV.noSlL, AObj.noSl, hv]) rfl rfl rfl (by first | exact trivial | exact ⟨rfl, trivial⟩ | exact ⟨rfl, rfl, trivial⟩ | exact ⟨rfl, rfl, rfl, rfl, rfl, trivial⟩) rfl rfl rfl ?_
   refine G [9, 9, 0] ?_
   refine ⟨m' - 1, by omega, _, zah (fun o => bif Nat.beq o 100 then 34 else o) _ _ ?_ ?_ rfl, j + 1, by omega, rfl⟩
   ·exact jak
   ·exact ⟨⟨rfl, rfl⟩, ⟨by rw [hn1, hN1]; rfl, rfl⟩, trivial⟩
  have hge : j = p.nets.length := by simp at h; omega
  clear h
  subst hge
  rw [← hnx]
  refine jct ?_
  refine ⟨m - 1, by omega, _, zah id _ _ ?_ ?_ rfl, i + 1, by omega, rfl⟩
  ·exact jak
  ·exact ⟨⟨rfl, rfl⟩, trivial⟩
 have hge : i = ps.length := by simp at h; omega
 clear h
 subst hge
 refine jcM ?_
 exact jbl
theorem ones_push (M : List (Key × Own)) (a b : Int) (o : Own) (h : one (nkey (a, b), o) = ⟨a, b, o, 1⟩) : nds (M.map one) ++ [.v (.int .u32 a), .v (.int .i64 b), .v (.string o), .v (.int .i64 1)] = nds ((M ++ [(nkey (a, b), o)]).map one) := by
 rw [List.map_append, zgR, List.map_cons, h]
 rfl
theorem rtree_s (c : CF) (ok : c.OK) (h0 : cfE c = 0) : Fn prog 41 [.agg c.cells] (.tup [.row 0, .p (.v (.int .i64 0))]) [(0, .row 90 4 (tOf (zaD c.ps c.ps.length)).list.length (nds (tOf (zaD c.ps c.ps.length)).list))] := by
 have hC := zgL c ok
 rw [h0] at hC
 have hg := zhb h0
 obtain ⟨key, port, ps⟩ := c
 have hok := ok.ps
 dsimp only at hg hok
 change Fn prog _ [.agg [.p (.v (.string key)), .p (.v (.int .i64 port)), .p (.sl ps.length 5 (ps.flatMap PE.pv))]] _ _ at hC
 refine jc8 ?_
 have hok1 : ∀ p ∈ ps, p.OK := fun p hp => (hok p hp).1
 have hall := zgx hg hok1
 have h6 := hg.n6
 clear ok h0
 refine fnI fun w0 A => ?_
 refine G [10] ?_
 refine cK hC ?_
 refine G [5, 1, 1, 9, 0] ?_
 refine cX (fun h => ?_) fun h => ?_
 ·cases h
 refine jct ?_
 refine za8 (zco 5 100 90 4 rfl rfl) ?_
 refine G [9] ?_
 refine zag (fun m st => ∃ i : Nat, m + i = ps.length ∧ st = St.of [(5, .row 100), (16, .p (.sl ps.length 5 (ps.flatMap PE.pv))), (17, .p (.v (.int .i64 ps.length))), (18, .p (.v (.int .i64 i)))] [(100, .row 90 4 (zaD ps i).length (nds ((zaD ps i).map one)))]) ps.length ?_ ?_
 ·exact jbg
 rintro m st ⟨i, hi, rfl⟩
 refine G [5] ?_
 refine cX (fun h => ?_) fun h => ?_
 ·have hlt : i < ps.length := by simp at h; omega
  clear h
  obtain ⟨p, hp⟩ : ∃ p, ps[i]? = some p := ⟨ps[i], List.getElem?_eq_getElem hlt⟩
  have hch := zar (f := PE.pv) (k := 5) (fun _ => rfl) hp
  have hle := zas (f := PE.pv) (k := 5) (fun _ => rfl) hlt
  have hmem := List.mem_of_getElem? hp
  have hpn := (hok p hmem).2
  have hnx := zeW hp
  have h8 := (zdo (hg.pe p hmem)).1
  have hBl := zd9 hg (Nat.le_of_lt hlt)
  have hnet := hg.net hmem
  have hnok := (hok1 p hmem).nets
  generalize ps.flatMap PE.pv = L at *
  refine G [8] ?_
  refine jcQ ?_
  refine G [9] ?_
  refine zag (fun m' st => ∃ j : Nat, m' + j = p.nets.length ∧ st = St.of [(5, .row 100), (7, .ref 7 0), (16, .p (.sl ps.length 5 L)), (17, .p (.v (.int .i64 ps.length))), (18, .p (.v (.int .i64 i))), (23, .p (.sl p.nets.length 2 (p.nets.flatMap ntC))), (24, .p (.v (.int .i64 p.nets.length))), (25, .p (.v (.int .i64 j)))] [(7, .box 84 p.cells), (100, .row 90 4 ((zaD ps i).length + j) (nds ((zaD ps i ++ zbi p j).map one)))]) p.nets.length ?_ ?_
  ·exact jba
  rintro m' st ⟨j, hj, rfl⟩
  refine G [5] ?_
  refine cX (fun h => ?_) fun h => ?_
  ·have hlj : j < p.nets.length := by simp at h; omega
   clear h
   obtain ⟨q, hq⟩ : ∃ q, p.nets[j]? = some q := ⟨p.nets[j], List.getElem?_eq_getElem hlj⟩
   have hch2 := zar (f := ntC) (k := 2) (fun _ => rfl) hq
   have hle2 := zas (f := ntC) (k := 2) (fun _ => rfl) hlj
   have hqm := List.mem_of_getElem? hq
   have hq0 := hnok q hqm
   have hqf := hnet q hqm
   have hpx := zeU hq
   have hcl : (nds ((zaD ps i ++ zbi p j).map one)).length = ((zaD ps i).length + j) * 4 := by rw [zeb, List.length_map, List.length_append, zfH p (by omega)]
   obtain ⟨a, b⟩ := q
   have hone : one (nkey (a, b), p.key) = ⟨a, b, p.key, 1⟩ := by
    obtain ⟨_, k1, k2⟩ := zfI hq0.1 hq0.2 hqf
    dsimp only at k1 k2
    unfold one
    dsimp only
    rw [← k1, ← k2]
   have hpush := ones_push (zaD ps i ++ zbi p j) a b p.key hone
   rw [List.append_assoc (zaD ps i), ← hpx] at hpush
   generalize nds ((zaD ps i ++ zbi p j).map one) = N0 at *
   generalize hNL : p.nets.flatMap ntC = NL at *
   refine G [8] ?_
   refine jdA (zaf (Y := .agg [.p (.v (.int .u32 a)), .p (.v (.int .i64 b))]) sz88 rfl rfl (Nat.eq_of_beq_eq_true rfl)) ?_
   refine G [7] ?_
   refine zab (xs := [.agg [.p (.v (.int .u32 a)), .p (.v (.int .i64 b)), .p (.v (.string p.key)), .p (.v (.int .i64 1))]]) (zae (es := [.p (.v (.int .u32 a)), .p (.v (.int .i64 b)), .p (.v (.string p.key)), .p (.v (.int .i64 1))]) (cs := [.v (.int .u32 a), .v (.int .i64 b), .v (.string p.key), .v (.int .i64 1)]) 34 U25 sz90 zc90 (Nat.le_of_ble_eq_true rfl) (Nat.le_of_ble_eq_true rfl) rfl (by kernel_rfl) (by kernel_rfl) (by kernel_rfl) (Nat.le_of_ble_eq_true rfl)) (by first | rfl | kernel_rfl) rfl ⟨rfl, trivial⟩ ?_
   refine zab (zal 35 U25 eo90 (zax) (by simp only [maxLen]; omega) (by omega) rfl rfl) rfl rfl ⟨rfl, rfl, rfl, trivial⟩ ?_
   refine jcs ?_
   refine ⟨m' - 1, by omega, _, zah (fun o => bif Nat.beq o 100 then 35 else o) _ _ ?_ ?_ rfl, j + 1, by omega, rfl⟩
   ·exact jak
   ·exact ⟨⟨rfl, rfl⟩, ⟨by rw [← hpush]; rfl, rfl⟩, trivial⟩
  have hge : j = p.nets.length := by simp at h; omega
  clear h
  subst hge
  rw [← hnx]
  refine jct ?_
  refine ⟨m - 1, by omega, _, zah id _ _ ?_ ?_ rfl, i + 1, by omega, rfl⟩
  ·exact jak
  ·refine ⟨⟨?_, rfl⟩, trivial⟩
   rw [show (zaD ps (i + 1)).length = (zaD ps i).length + p.nets.length by rw [hnx, List.length_append, zfH p (Nat.le_refl _)]]
   rfl
 have hge : i = ps.length := by simp at h; omega
 clear h
 subst hge
 have hT := hall ps.length (Nat.le_refl _)
 have hfew := zd9 hg (Nat.le_refl ps.length)
 have hG := grown_s (zaD ps ps.length).length (zaD ps ps.length) (Nat.le_refl _) hT.k (by omega)
 rw [show (zbr (zaD ps ps.length).length (zaD ps ps.length)).map toND = (tOf (zaD ps ps.length)).list from hT.grown] at hG
 have hcl : (nds ((zaD ps ps.length).map one)).length = (zaD ps ps.length).length * 4 := by rw [zeb, List.length_map]
 have hv := zec (tOf (zaD ps ps.length)).list
 generalize nds (tOf (zaD ps ps.length)).list = N1 at *
 generalize (tOf (zaD ps ps.length)).list.length = n1 at *
 generalize nds ((zaD ps ps.length).map one) = N0 at *
 generalize (zaD ps ps.length).length = n0 at *
 refine G [4] ?_
 refine zaR (fun n => 39 + 1000 * n) (hG) rfl rfl func79 rfl rfl (by first | rfl | simp [AV.noSl, AV.noSlL, AObj.noSl, hv]) (by first | rfl | simp [AV.noSl, AV.noSlL, AObj.noSl, hv]) rfl rfl rfl (by first | exact trivial | exact ⟨rfl, trivial⟩ | exact ⟨rfl, rfl, trivial⟩ | exact ⟨rfl, rfl, rfl, rfl, rfl, trivial⟩) rfl rfl rfl ?_
 refine G [4, 9, 0] ?_
 refine yT (fun _ => 39) ?_ ?_
 ·exact rfl
 ·exact ⟨⟨rfl, rfl⟩, trivial⟩
end Go.Proofs.YtbjdjclkbjpebaaGreatDoor
