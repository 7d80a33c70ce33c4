/- conf.Copy, conf.Find, the reference's PeerAt, the law's sameConf, over data. -/
import Derived.Test.YtbjdjclkbjpebaaGreatDoorSEq2
import Derived.Test.YtbjdjclkbjpebaaGreatDoorSBt1
import Derived.Test.YtbjdjclkbjpebaaGreatDoorSFz
import Derived.Test.YtbjdjclkbjpebaaGreatDoorSMo3
import Derived.Test.YtbjdjclkbjpebaaGreatDoorSTw3
import Derived.Test.YtbjdjclkbjpebaaGreatDoorSDm1
import Derived.Test.YtbjdjclkbjpebaaGreatDoorSTw5
import Derived.Test.YtbjdjclkbjpebaaGreatDoorSTc2
import Derived.Test.YtbjdjclkbjpebaaGreatDoorSMa3
namespace Go.Proofs.YtbjdjclkbjpebaaGreatDoor
open Tryz
open Go.RowKit Go.Sort
set_option maxHeartbeats 16000000
set_option linter.unusedVariables false
set_option linter.unusedSimpArgs false
set_option maxRecDepth 100000
theorem nclone_s (l : List NtP) (hn : l.length ≤ 1048576) : Fn prog 63 [.p (.sl l.length 2 (l.flatMap ntC))] (.row 0) [(0, .row 88 2 l.length (l.flatMap ntC))] := by
 have hL : (l.flatMap ntC).length = l.length * 2 := zaZ (f := ntC) (k := 2) (fun _ => rfl) l
 by_cases h0 : l.length = 0
 ·obtain rfl : l = [] := List.eq_nil_of_length_eq_zero h0
  show Fn prog _ [.p (.sl 0 2 [])] (.row 0) [(0, .row 88 2 0 [])]
  refine fnI fun w0 A => ?_
  refine G [8] ?_
  refine jdz (a_seqX U82) ?_
  refine zac (zaz (zem rfl ?_ ?_))
  ·refine G [4, 9, 0] ?_
   refine za8 (zco 2 100 88 2 rfl rfl) ?_
   refine zaE (zbG ?_)
   exact jbl
  ·refine G [3] ?_
   refine jdA (za0 5 U82 sz88) ?_
   refine jco ?_
   refine zab (zal 7 U82 eo88 (zbn) (by simp only [maxLen]; omega) (by omega) rfl rfl) rfl rfl ⟨rfl, rfl, trivial⟩ ?_
   exact jbi
 ·generalize l.flatMap ntC = L at *
  generalize l.length = n at *
  refine fnI fun w0 A => ?_
  refine G [8] ?_
  refine zaa (a_seqS U82 (by omega)) rfl rfl ?_
  refine zac (zaz (cX (fun h => ?_) fun h => ?_))
  ·cases h
  ·refine G [3] ?_
   refine jdA (za0 5 U82 sz88) ?_
   refine jco ?_
   refine zab (zal 7 U82 eo88 (zbn) (by simp only [maxLen]; omega) (by omega) (show _ = n by omega) rfl) rfl rfl ⟨rfl, rfl, trivial⟩ ?_
   exact jbi
theorem pe_push (l : List PE) (i : Nat) (p : PE) (h : l[i]? = some p) : (l.take i).flatMap PE.pv ++ p.pv = (l.take (i + 1)).flatMap PE.pv := by
 obtain ⟨h1, h2⟩ := List.getElem?_eq_some_iff.1 h
 exact jbC
theorem cfCopy_s (c : CF) (ok : c.OK) : Fn prog 31 [.agg c.cells] (.agg [.p (.v (.string c.key)), .p (.v (.int .i64 c.port)), .row 0]) [(0, .row 84 5 c.ps.length (c.ps.flatMap PE.pv))] := by
 obtain ⟨key, port, l⟩ := c
 obtain ⟨hn, ok⟩ := ok
 dsimp only at hn ok
 show Fn prog _ [.agg (cfC key port l.length (l.flatMap PE.pv))] (.agg [.p (.v (.string key)), .p (.v (.int .i64 port)), .row 0]) [(0, .row 84 5 l.length (l.flatMap PE.pv))]
 refine fnI fun w0 A => ?_
 refine G [10] ?_
 refine zab (zhn 9 U22 eo84 (by omega) (by omega) (by simp only [maxLen]; omega)) rfl rfl ⟨rfl, trivial⟩ ?_
 refine G [11] ?_
 refine zag (fun m st => ∃ i : Nat, m + i = l.length ∧ st = St.of [(1, .ref 1 0), (2, .ref 2 0), (3, .row 100), (11, .p (.sl l.length 5 (l.flatMap PE.pv))), (12, .p (.v (.int .i64 l.length))), (13, .p (.v (.int .i64 i)))] [(1, .box 24 (cfC key port l.length (l.flatMap PE.pv))), (2, .box 24 [.p (.v (.string ⟨#[]⟩)), .p (.v (.int .i64 0)), .p (.v (.slice none 0 0))]), (100, .row 84 5 i ((l.take i).flatMap PE.pv))]) l.length ?_ ?_
 ·refine ⟨_, zah (fun o => bif Nat.beq o 100 then 9 else o) _ _ ?_ ?_ rfl, 0, by omega, rfl⟩
  ·exact jak
  ·exact jaC
 rintro m st ⟨i, hi, rfl⟩
 refine G [5] ?_
 refine cX (fun h => ?_) fun h => ?_
 ·have hlt : i < l.length := by simp at h; omega
  clear h
  obtain ⟨p, hp⟩ : ∃ p, l[i]? = some p := ⟨l[i], List.getElem?_eq_getElem hlt⟩
  have hch := zar (f := PE.pv) (k := 5) (fun _ => rfl) hp
  have hle := zas (f := PE.pv) (k := 5) (fun _ => rfl) hlt
  have hpl := (ok p (List.mem_of_getElem? hp)).2
  have hC := nclone_s p.nets hpl
  have hpush := pe_push l i p hp
  have hil : ((l.take i).flatMap PE.pv).length = i * 5 := by rw [zaZ (k := 5) (fun _ => rfl), List.length_take, Nat.min_eq_left (by omega)]
  generalize hL : l.flatMap PE.pv = L at *
  generalize (l.take i).flatMap PE.pv = T at *
  obtain ⟨pk, sh, ep, al, nn⟩ := p
  dsimp only at hC hpl
  refine G [8] ?_
  refine jdA (zaf (Y := .agg [.p (.v (.string pk)), .p (.v (.string sh)), .p (.v (.string ep)), .p (.v (.int .i64 al)), .p (.sl nn.length 2 (nn.flatMap ntC))]) sz84 rfl rfl (Nat.eq_of_beq_eq_true rfl)) ?_
  refine G [5] ?_
  refine zbO (fun _ => 19) (hC) rfl rfl func63 rfl rfl (by first | rfl | simp [AV.okInL, AV.okIn, zay]) rfl rfl rfl (by first | exact trivial | exact ⟨rfl, trivial⟩ | exact ⟨rfl, rfl, trivial⟩ | exact ⟨rfl, rfl, rfl, rfl, rfl, trivial⟩) rfl rfl rfl ?_
  refine G [3] ?_
  refine zfA (zc7 (cs := nn.flatMap ntC) 19 rfl) ?_
  skip
  refine G [3] ?_
  refine jdA (zae 23 U22 sz84 zc84 (Nat.le_of_ble_eq_true rfl) (Nat.le_of_ble_eq_true rfl) rfl rfl rfl rfl (Nat.le_of_ble_eq_true rfl)) ?_
  refine zab (zal 24 U22 eo84 (zax) (by simp only [maxLen]; omega) (by omega) rfl rfl) rfl rfl ⟨rfl, rfl, rfl, trivial⟩ ?_
  refine jcs ?_
  refine ⟨m - 1, by omega, _, zah (fun o => bif Nat.beq o 100 then 24 else o) _ _ ?_ ?_ rfl, i + 1, by omega, rfl⟩
  ·exact jak
  ·exact ⟨⟨rfl, rfl⟩, ⟨rfl, rfl⟩, ⟨by rw [← hpush]; rfl, rfl⟩, trivial⟩
 have hge : i = l.length := by simp at h; omega
 clear h
 subst hge
 rw [List.take_length]
 refine G [13, 9, 0] ?_
 exact jbl
end Go.Proofs.YtbjdjclkbjpebaaGreatDoor
namespace Go.Proofs.YtbjdjclkbjpebaaGreatDoor
open Go.RowKit Go.Sort
set_option maxHeartbeats 16000000
set_option linter.unusedVariables false
set_option linter.unusedSimpArgs false
set_option maxRecDepth 100000
theorem zhG (c : CF) (ok : c.OK) : Fn Tryz.prog 42 [.agg c.cells] (.agg [.p (.v (.string c.key)), .p (.v (.int .i64 c.port)), .row 0]) [(0, .row 84 5 c.ps.length (c.ps.flatMap PE.pv))] := by
 obtain ⟨key, port, l⟩ := c
 obtain ⟨hn, ok⟩ := ok
 dsimp only at hn ok
 show Fn Tryz.prog _ [.agg (cfC key port l.length (l.flatMap PE.pv))] (.agg [.p (.v (.string key)), .p (.v (.int .i64 port)), .row 0]) [(0, .row 84 5 l.length (l.flatMap PE.pv))]
 refine fnI fun w0 A => ?_
 refine G [13] ?_
 refine jdA (zaf (Y := .agg [.p (.v (.string key)), .p (.v (.int .i64 port)), .p (.v (.slice none 0 0))]) sz24 rfl rfl (Nat.eq_of_beq_eq_true rfl)) ?_
 refine zac (zaz (za8 (re_nilB 3 (cs := [.p (.v (.string key)), .p (.v (.int .i64 port)), .p (.v (.slice none 0 0))]) 2 100 84 5 rfl rfl rfl) ?_))
 refine G [9] ?_
 refine zag (fun m st => ∃ i : Nat, m + i = l.length ∧ st = St.of [(2, .ref 2 0), (3, .ref 3 0), (12, .p (.sl l.length 5 (l.flatMap PE.pv))), (13, .p (.v (.int .i64 l.length))), (14, .p (.v (.int .i64 i)))] [(2, .box 24 [.p (.v (.string ⟨#[]⟩)), .p (.v (.int .i64 0)), .p (.v (.slice none 0 0))]), (3, .box 24 [.p (.v (.string key)), .p (.v (.int .i64 port)), .row 100]), (100, .row 84 5 i ((l.take i).flatMap PE.pv))]) l.length ?_ ?_
 ·exact jbd
 rintro m st ⟨i, hi, rfl⟩
 refine G [5] ?_
 refine cX (fun h => ?_) fun h => ?_
 ·have hlt : i < l.length := by simp at h; omega
  clear h
  obtain ⟨p, hp⟩ : ∃ p, l[i]? = some p := ⟨l[i], List.getElem?_eq_getElem hlt⟩
  have hch := zar (f := PE.pv) (k := 5) (fun _ => rfl) hp
  have hle := zas (f := PE.pv) (k := 5) (fun _ => rfl) hlt
  have hpl := (ok p (List.mem_of_getElem? hp)).2
  have hpush := pe_push l i p hp
  have hil : ((l.take i).flatMap PE.pv).length = i * 5 := by rw [zaZ (k := 5) (fun _ => rfl), List.length_take, Nat.min_eq_left (by omega)]
  generalize hL : l.flatMap PE.pv = L at *
  generalize (l.take i).flatMap PE.pv = T at *
  obtain ⟨pk, sh, ep, al, nn⟩ := p
  dsimp only at hpl
  have hnl : (nn.flatMap ntC).length = nn.length * 2 := zaZ (f := ntC) (k := 2) (fun _ => rfl) nn
  change T ++ [.v (.string pk), .v (.string sh), .v (.string ep), .v (.int .i64 al), .sl nn.length 2 (nn.flatMap ntC)] = _ at hpush
  change _ = ([.v (.string pk), .v (.string sh), .v (.string ep), .v (.int .i64 al), .sl nn.length 2 (nn.flatMap ntC)] : List PV) at hch
  generalize nn.flatMap ntC = NL at *
  generalize nn.length = nl at *
  refine G [8] ?_
  refine jdA (zaf (Y := .agg [.p (.v (.string pk)), .p (.v (.string sh)), .p (.v (.string ep)), .p (.v (.int .i64 al)), .p (.sl nl 2 NL)]) sz84 rfl rfl (Nat.eq_of_beq_eq_true rfl)) ?_
  refine G [5] ?_
  refine zab (zbR 20 U82 eo88 (zbn) (by simp only [maxLen]; omega) (by omega)) rfl rfl ⟨rfl, trivial⟩ ?_
  refine G [3] ?_
  refine zfA (zc7 (cs := NL) 20 rfl) ?_
  skip
  refine G [4] ?_
  refine jdA (zae 25 U22 sz84 zc84 (Nat.le_of_ble_eq_true rfl) (Nat.le_of_ble_eq_true rfl) rfl rfl rfl rfl (Nat.le_of_ble_eq_true rfl)) ?_
  refine zab (zal 26 U22 eo84 (zax) (by simp only [maxLen]; omega) (by omega) rfl rfl) rfl rfl ⟨rfl, rfl, rfl, trivial⟩ ?_
  refine jcq ?_
  refine ⟨m - 1, by omega, _, zah (fun o => bif Nat.beq o 100 then 26 else o) _ _ ?_ ?_ rfl, i + 1, by omega, rfl⟩
  ·exact jak
  ·exact ⟨⟨rfl, rfl⟩, ⟨rfl, rfl⟩, ⟨by rw [← hpush]; rfl, rfl⟩, trivial⟩
 exact jaV
end Go.Proofs.YtbjdjclkbjpebaaGreatDoor
namespace Go.Proofs.YtbjdjclkbjpebaaGreatDoor
open Tryz
open Go.RowKit Go.Sort
set_option linter.unusedVariables false
set_option linter.unusedSimpArgs false
set_option maxRecDepth 100000
theorem sclone_s (l : List SE) (hn : l.length ≤ 1048576) : Fn prog 65 [.p (.sl l.length 5 (l.flatMap SE.pv))] (.row 0) [(0, .row 121 5 l.length (l.flatMap SE.pv))] := by
 have hL : (l.flatMap SE.pv).length = l.length * 5 := zaZ (f := SE.pv) (k := 5) (fun _ => rfl) l
 by_cases h0 : l.length = 0
 ·obtain rfl : l = [] := List.eq_nil_of_length_eq_zero h0
  show Fn prog _ [.p (.sl 0 5 [])] (.row 0) [(0, .row 121 5 0 [])]
  refine fnI fun w0 A => ?_
  refine G [8] ?_
  refine jdz (a_seqX U27) ?_
  refine zac (zaz (zem rfl ?_ ?_))
  ·refine G [4, 9, 0] ?_
   refine za8 (zco 2 100 121 5 rfl rfl) ?_
   refine zaE (zbG ?_)
   exact jbl
  ·refine G [3] ?_
   refine jdA (za0 5 U27 sz121) ?_
   refine jco ?_
   refine zab (zal 7 U27 eo121 (zbn) (by simp only [maxLen]; omega) (by omega) rfl rfl) rfl rfl ⟨rfl, rfl, trivial⟩ ?_
   exact jbi
 ·generalize l.flatMap SE.pv = L at *
  generalize l.length = n at *
  refine fnI fun w0 A => ?_
  refine G [8] ?_
  refine zaa (a_seqS U27 (by omega)) rfl rfl ?_
  refine zac (zaz (cX (fun h => ?_) fun h => ?_))
  ·cases h
  ·refine G [3] ?_
   refine jdA (za0 5 U27 sz121) ?_
   refine jco ?_
   refine zab (zal 7 U27 eo121 (zbn) (by simp only [maxLen]; omega) (by omega) (show _ = n by omega) rfl) rfl rfl ⟨rfl, rfl, trivial⟩ ?_
   exact jbi
theorem sgCopy_s (s : SG) (ok : s.OK) : Fn prog 34 [.agg s.cells] (.agg [.p (.v (.bool s.lv)), .row 0, .p (.v (.string s.c.key)), .p (.v (.int .i64 s.c.port)), .row 1, .p (.v (.string s.at_)), .p (.v (.int .i64 s.err))]) [(0, .row 121 5 s.rest.length (s.rest.flatMap SE.pv)), (1, .row 84 5 s.c.ps.length (s.c.ps.flatMap PE.pv))] := by
 obtain ⟨lv, rest, c, at_, err⟩ := s
 obtain ⟨okr, hl, okc, haz, hkz⟩ := ok
 dsimp only at hl okc
 have hC := cfCopy_s c okc
 have hS := sclone_s rest hl
 obtain ⟨key, port, ps⟩ := c
 dsimp only at hC
 change Fn prog _ [.agg [.p (.v (.string key)), .p (.v (.int .i64 port)), .p (.sl ps.length 5 (ps.flatMap PE.pv))]] _ _ at hC
 show Fn prog _ [.agg (sgC lv rest.length (rest.flatMap SE.pv) key port ps.length (ps.flatMap PE.pv) at_ err)] (.agg [.p (.v (.bool lv)), .row 0, .p (.v (.string key)), .p (.v (.int .i64 port)), .row 1, .p (.v (.string at_)), .p (.v (.int .i64 err))]) [(0, .row 121 5 rest.length (rest.flatMap SE.pv)), (1, .row 84 5 ps.length (ps.flatMap PE.pv))]
 clear okc okr haz hkz hl
 generalize ps.flatMap PE.pv = L at *
 generalize ps.length = M at *
 generalize rest.flatMap SE.pv = R at *
 generalize rest.length = N at *
 refine fnI fun w0 A => ?_
 refine G [9] ?_
 refine zbO (fun _ => 105) (hS) rfl rfl func65 rfl rfl (by first | rfl | simp [AV.okInL, AV.okIn, zay]) rfl rfl rfl (by first | exact trivial | exact ⟨rfl, trivial⟩ | exact ⟨rfl, rfl, trivial⟩ | exact ⟨rfl, rfl, rfl, rfl, rfl, trivial⟩) rfl rfl rfl ?_
 refine G [2] ?_
 refine zbO (fun _ => 108) (hC) rfl rfl func31 rfl rfl (by first | rfl | simp [AV.okInL, AV.okIn, zay]) rfl rfl rfl (by first | exact trivial | exact ⟨rfl, trivial⟩ | exact ⟨rfl, rfl, trivial⟩ | exact ⟨rfl, rfl, rfl, rfl, rfl, trivial⟩) rfl rfl rfl ?_
 refine G [11, 9, 0] ?_
 refine yT (fun o => bif Nat.beq o 0 then 105 else 108) ?_ ?_
 ·exact rfl
 ·exact ⟨⟨rfl, rfl⟩, ⟨rfl, rfl⟩, trivial⟩
end Go.Proofs.YtbjdjclkbjpebaaGreatDoor
namespace Go.Proofs.YtbjdjclkbjpebaaGreatDoor
open Go.RowKit Go.Sort
set_option linter.unusedVariables false
set_option linter.unusedSimpArgs false
set_option maxRecDepth 100000
end Go.Proofs.YtbjdjclkbjpebaaGreatDoor
namespace Go.Proofs.YtbjdjclkbjpebaaGreatDoor
open Tryz
open Go.RowKit Go.Sort
set_option maxHeartbeats 16000000
set_option linter.unusedVariables false
set_option linter.unusedSimpArgs false
set_option maxRecDepth 100000
theorem rsgCopyD_s (s : SG) (ok : s.OK) : Fn prog 44 [.agg s.cells] (.agg s.cells) [] := by
 have hC : Fn prog 42 [.agg s.c.cells] (.agg s.c.cells) [] := fn_fz (zhG s.c ok.c) rfl rfl
 have hl := ok.len
 refine fnI fun w0 A => ?_
 refine G [11] ?_
 refine zab (ziB (zbR 7 U27 eo121 (zbn) (by simp only [maxLen]; omega) (by omega))) rfl rfl ⟨rfl, trivial⟩ ?_
 refine fA fi30_2 rfl rfl ?_
 refine zab (zak underlying24 rfl sz24 (by first | exact Nat.le_of_ble_eq_true rfl | omega | (simp only [AV.cells, List.length_map]; omega)) (show _ = s.c.cells from rfl)) rfl rfl ⟨rfl, trivial⟩ ?_
 refine cK hC ?_
 refine G [5] ?_
 refine jdA (zaf (Y := .agg s.cells) sz30 rfl rfl (Nat.eq_of_beq_eq_true rfl)) ?_
 refine G [2, 9, 0] ?_
 exact yE
theorem rdmCopy_s (d : DM) (ok : d.OK) : Fn prog 13 [.agg d.cells] (.agg (moD d (.row 0))) [(0, .row 56 41 d.ps.length (d.ps.flatMap ST.pv))] := by
 have hC : Fn prog 42 [.agg d.c.cells] (.agg d.c.cells) [] := fn_fz (zhG d.c ok.c) rfl rfl
 have hS := rcopy_s d.ps (fun s hs => (ok.ps s hs).1) ok.psN
 have hG := rsgCopyD_s d.sg ok.sg
 have ht := ok.treeN
 refine fnI fun w0 A => ?_
 refine G [8] ?_
 refine jdc ?_
 refine cK hC ?_
 refine G [2] ?_
 refine zab (ziB (zbR 8 U25 eo90 (zbn) (by simp only [maxLen]; omega) (by omega))) rfl rfl ⟨rfl, trivial⟩ ?_
 refine G [2] ?_
 refine cK hS ?_
 refine fA fi32_3 rfl rfl ?_
 refine jda ?_
 refine cK hG ?_
 refine G [7] ?_
 exact jbf
theorem dmCopyR_s (d : DM) (ok : d.OK) : Fn prog 9 [.agg d.cells] (.agg (moD d (.row 0))) [(0, .row 56 41 d.ps.length (d.ps.flatMap ST.pv))] := by
 have hC : Fn prog 31 [.agg d.c.cells] (.agg d.c.cells) [] := fn_fz (cfCopy_s d.c ok.c) rfl rfl
 have hT : Fn prog 32 [.p (.sl d.tree.length 4 (nds d.tree))] (.p (.sl d.tree.length 4 (nds d.tree))) [] := fn_fz (cloneN_s d.tree.length (nds d.tree) (zeb _) (by have := ok.treeN; omega)) rfl rfl
 have hS := tcopy_s d.ps (fun s hs => (ok.ps s hs).1) ok.psN
 have hG : Fn prog 34 [.agg d.sg.cells] (.agg d.sg.cells) [] := fn_fz (sgCopy_s d.sg ok.sg) rfl rfl
 refine fnI fun w0 A => ?_
 refine G [8] ?_
 refine jdc ?_
 refine cK hC ?_
 refine G [2] ?_
 refine cK hT ?_
 refine G [2] ?_
 refine cK hS ?_
 refine fA fi32_3 rfl rfl ?_
 refine jda ?_
 refine cK hG ?_
 refine fA fi32_0 rfl rfl ?_
 refine jdA (zb3 (Y := .agg d.c.cells) (es := d.cells) sz24 rfl rfl (Nat.le_of_ble_eq_true rfl) rfl) ?_
 refine fA fi32_1 rfl rfl ?_
 refine jdA (zb3 (Y := .p (.sl d.tree.length 4 (nds d.tree))) (es := d.cells) sz25 rfl rfl (Nat.le_of_ble_eq_true rfl) rfl) ?_
 refine fA fi32_2 rfl rfl ?_
 refine jdA (zb3 (Y := .row 11) (es := moD d (.row 11)) sz26 rfl rfl (Nat.le_of_ble_eq_true rfl) rfl) ?_
 refine fA fi32_3 rfl rfl ?_
 refine jdA (zb3 (Y := .agg d.sg.cells) (es := moD d (.row 11)) sz30 rfl rfl (Nat.le_of_ble_eq_true rfl) rfl) ?_
 refine G [3] ?_
 refine zab (zak U32 rfl sz32 (by first | exact Nat.le_of_ble_eq_true rfl | omega | (simp only [AV.cells, List.length_map]; omega)) (show _ = moD d (.row 11) from rfl)) rfl rfl ⟨rfl, trivial⟩ ?_
 exact jbf
end Go.Proofs.YtbjdjclkbjpebaaGreatDoor
namespace Go.Proofs.YtbjdjclkbjpebaaGreatDoor
open Go.RowKit Go.Sort
set_option linter.unusedVariables false
set_option linter.unusedSimpArgs false
set_option maxHeartbeats 16000000
theorem flat_at {α : Type} {s : Nat} : ∀ {L : List (List α)} {k : Nat} {e : List α}, (∀ x ∈ L, x.length = s) → L[k]? = some e → (L.flatten.drop (k * s)).take s = e ∧ k * s + s ≤ L.flatten.length
 | [], k, e, _, h => by simp at h
 | x :: L, 0, e, hs, h => by
  simp only [List.getElem?_cons_zero, Option.some.injEq] at h
  subst h
  have hx := hs x (by simp)
  simp only [List.flatten_cons, Nat.zero_mul, List.drop_zero, Nat.zero_add, List.length_append]
  exact ⟨by rw [← hx]; exact List.take_left, by omega⟩
 | x :: L, k + 1, e, hs, h => by
  have hx := hs x (by simp)
  obtain ⟨h1, h2⟩ := flat_at (fun y hy => hs y (by simp [hy])) (by simpa using h : L[k]? = some e)
  have e1 : (k + 1) * s = x.length + k * s := by rw [hx, Nat.add_mul, Nat.one_mul, Nat.add_comm]
  rw [e1, List.flatten_cons, List.drop_length_add_append, List.length_append]
  exact ⟨h1, by omega⟩
abbrev Four := Int × Int × Int × Int
def Four.l5 (q : Four) : List Int := [0, q.1, q.2.1, q.2.2.1, q.2.2.2]
structure StP (e : List PV) (q : Four) : Prop where
 len : e.length = 41
 h5 : e[5]? = some (.v (.int .i64 q.1))
 h16 : e[16]? = some (.v (.int .i64 q.2.1))
 h27 : e[27]? = some (.v (.int .i64 q.2.2.1))
 h36 : e[36]? = some (.v (.int .i64 q.2.2.2))
def mx (n : Int) (xs : List Int) : Int := xs.foldl max n
def Four.l4 (q : Four) : List Int := [q.1, q.2.1, q.2.2.1, q.2.2.2]
def most (Q : List Four) : Int := Q.foldl (fun n q => mx n q.l5) 0
def iv (xs : List Int) : List AV := xs.map fun x => .p (.v (.int .i64 x))
theorem mx_take {n : Int} {xs : List Int} {j : Nat} (h : j < xs.length) : max (mx n (xs.take j)) xs[j] = mx n (xs.take (j + 1)) := by
 unfold mx
 rw [List.take_succ_eq_append_getElem h, List.foldl_append]; rfl
theorem most_take {Q : List Four} {k : Nat} {q : Four} (h : Q[k]? = some q) : mx (most (Q.take k)) q.l5 = most (Q.take (k + 1)) := by
 unfold most
 have hk := (List.getElem?_eq_some_iff.1 h)
 rw [List.take_succ_eq_append_getElem hk.1, List.foldl_append, hk.2]; rfl
theorem mx_ge (n : Int) (xs : List Int) : n ≤ mx n xs := by
 induction xs generalizing n with
 | nil => exact Int.le_refl _
 | cons x xs ih => exact Int.le_trans (by omega) (ih (max n x))
theorem most_nn (Q : List Four) : 0 ≤ most Q := by
 have : ∀ (Q : List Four) (n : Int), 0 ≤ n → 0 ≤ Q.foldl (fun n q => mx n q.l5) n := by
  intro Q
  induction Q with
  | nil => intro n h; exact h
  | cons q Q ih => intro n h; exact ih _ (Int.le_trans h (mx_ge _ _))
 exact this Q 0 (Int.le_refl _)
set_option maxRecDepth 100000 in
theorem most_s (L : List (List PV)) (Q : List Four) (N : Nat) (hL : L.length = N) (hQ : Q.length = N) (hm : N ≤ 9223372036854775807) (hst : ∀ (k : Nat) e q, L[k]? = some e → Q[k]? = some q → StP e q) :
    Fn Tryz.prog 26 [.p (.sl N 41 L.flatten)] (.p (.v (.int .i64 (most Q)))) [] := by
  have hlen : ∀ e ∈ L, e.length = 41 := by
    intro e he
    obtain ⟨k, hk, rfl⟩ := List.mem_iff_getElem.1 he
    exact (hst k _ (Q[k]'(by omega)) (List.getElem?_eq_getElem hk) (List.getElem?_eq_getElem (by omega))).len
  refine zb7 Tryz.func26 rfl (Nat.le_of_ble_eq_true rfl) fun w0 A => ?_
  refine zad (zaF (by kernel_rfl) ?_)
  (refine zaa (zaw (r := .p _)) rfl rfl ?_)
  refine zac (zad (zaF (by kernel_rfl) ?_))
  (refine zaa (zaw (r := .p _)) rfl rfl ?_)
  refine zac (zad (zad (zaF (by kernel_rfl) ?_)))
  (refine zaa (zav (r := .p _)) rfl rfl ?_)
  (refine zaa (zdu Tryz.underlying26) rfl rfl ?_)
  (refine zaa (zav (r := .p _)) rfl rfl ?_)
  refine zac (zao (zag (fun m st => ∃ k : Nat, m + k = N ∧ st = St.of [(3, .p (.v (.int .i64 (most (Q.take k))))), (8, .p (.sl N 41 L.flatten)), (9, .p (.v (.int .i64 N))), (10, .p (.v (.int .i64 k)))] []) N ?_ ?_))
  · refine ⟨_, zah id _ _ ?_ ?_ rfl, 0, by omega, rfl⟩
    · (repeat (first | exact trivial | (refine ⟨⟨(by first | rfl | (simp; done) | (simp; omega)), rfl⟩, ?_⟩)))
    · exact trivial
  rintro m st ⟨k, hk, rfl⟩
  refine zad (zaF (by kernel_rfl) ?_)
  (refine zaa zcI rfl rfl ?_)
  refine zac (zad (zaJ _ rfl (fun h => ?_) (fun h => ?_)))
  · have hlt : k < N := by simpa using h
    clear h
    obtain ⟨e, he⟩ : ∃ e, L[k]? = some e := ⟨L[k]'(by omega), List.getElem?_eq_getElem (by omega)⟩
    obtain ⟨q, hq⟩ : ∃ q, Q[k]? = some q := ⟨Q[k]'(by omega), List.getElem?_eq_getElem (by omega)⟩
    obtain ⟨g0, g5, g16, g27, g36⟩ := hst k e q he hq
    obtain ⟨f1, f2⟩ := flat_at hlen he
    have f3 : 41 ≤ (L.flatten.drop (k * 41)).length := by rw [List.length_drop]; omega
    have k5 : (e.map AV.p)[5]? = some (.p (.v (.int .i64 q.1))) := by simp [g5]
    have k16 : (e.map AV.p)[16]? = some (.p (.v (.int .i64 q.2.1))) := by simp [g16]
    have k27 : (e.map AV.p)[27]? = some (.p (.v (.int .i64 q.2.2.1))) := by simp [g27]
    have k36 : (e.map AV.p)[36]? = some (.p (.v (.int .i64 q.2.2.2))) := by simp [g36]
    refine zap (zad (zao (zad (zaF (by kernel_rfl) ?_))))
    (refine zaa (zaM Tryz.underlying26 sz56 (by omega) (by omega) (by rw [Int.toNat_natCast])) rfl rfl ?_)
    (refine zaa (zaI Tryz.underlying56 rfl sz56 f3 (f1)) rfl rfl ?_)
    (refine zab (zaX 5 zr56 rfl) rfl rfl ⟨rfl, trivial⟩ ?_)
    (refine zab (zaf (Y := .agg _) sz56 rfl (by first | exact Nat.eq_of_beq_eq_true rfl | (simp only [AV.cells, List.length_map]; first | assumption | omega)) (Nat.eq_of_beq_eq_true rfl)) rfl rfl ⟨rfl, trivial⟩ ?_)
    refine zac (zad (zaF (by kernel_rfl) ?_))
    (refine zab (zak Tryz.underlying56 rfl sz56 (by first | exact Nat.le_of_ble_eq_true rfl | omega | (simp only [AV.cells, List.length_map]; omega)) (by first | exact zcC (by first | assumption | exact Nat.eq_of_beq_eq_true rfl | (simp only [AV.cells, List.length_map]; first | assumption | omega)) | (simp only [List.take_succ_cons, List.take_zero, List.drop_succ_cons, List.drop_zero]; rfl) | rfl)) rfl rfl ⟨rfl, trivial⟩ ?_)
    (refine zbO (fun n => 15 + 1000 * n) (numbers_s _ _ _ _ _ k5 k16 k27 k36) rfl rfl Tryz.func59 rfl rfl (by first | rfl | simp [AV.okInL, AV.okIn, zay]) rfl rfl rfl (by first | exact trivial | exact ⟨rfl, trivial⟩ | exact ⟨rfl, rfl, trivial⟩ | exact ⟨rfl, rfl, rfl, rfl, rfl, trivial⟩) rfl rfl rfl ?_)
    (refine zaa (zav (r := .p _)) rfl rfl ?_)
    refine zac (zao (zag (fun m2 st => ∃ j : Nat, m2 + j = 5 ∧ st = St.of [(3, .p (.v (.int .i64 (mx (most (Q.take k)) (q.l5.take j))))), (8, .p (.sl N 41 L.flatten)), (9, .p (.v (.int .i64 N))), (10, .p (.v (.int .i64 k))), (15, .agg (iv q.l5)), (16, .p (.v (.int .i64 j)))] []) 5 ?_ ?_))
    · refine ⟨_, zah id _ _ ?_ ?_ rfl, 0, by omega, rfl⟩
      · (repeat (first | exact trivial | (refine ⟨⟨(by first | rfl | (simp; done) | (simp; omega)), rfl⟩, ?_⟩)))
      · exact trivial
    rintro m2 st ⟨j, hj, rfl⟩
    refine zad (zaF (by kernel_rfl) ?_)
    (refine zaa zcI rfl rfl ?_)
    refine zac (zad (zaJ _ rfl (fun h => ?_) (fun h => ?_)))
    · have hj5 : j < 5 := by have : (j : Int) < 5 := by simpa using h
                             omega
      clear h
      have hx5 : j < q.l5.length := hj5
      have hat : (iv q.l5)[j]? = some (.p (.v (.int .i64 q.l5[j]))) := by simp [iv, hx5]
      refine zap (zad (zao (zad (zaF (by kernel_rfl) ?_))))
      (refine zaa (zcE Tryz.underlying117 sz3 Tryz.underlying3 rfl (by omega) (by omega) (by first | rfl | assumption | ((try simp only [Int.toNat_natCast, Nat.mul_one, Nat.add_zero, Nat.zero_add]); first | assumption | rfl))) rfl rfl ?_)
      (refine zaa (zaw (r := .p _)) rfl rfl ?_)
      refine zac (zaz (zaF (by kernel_rfl) ?_))
      (refine zaa (zav (r := .p _)) rfl rfl ?_)
      (refine zaa (zav (r := .p _)) rfl rfl ?_)
      (refine zaa a_max rfl rfl ?_)
      (refine zaa (zaw (r := .p _)) rfl rfl ?_)
      refine zac (zbz (zaz (zaF (by kernel_rfl) ?_)))
      (refine zaa (za3 (by first | exact IntWalk.i64_in _ (by omega) | rfl)) rfl rfl ?_)
      (refine zaa (zav (r := .p _)) rfl rfl ?_)
      refine zac (zaz (⟨m2 - 1, by omega, _, zah id _ _ ?_ ?_ rfl, j + 1, by omega, rfl⟩))
      · rw [← mx_take hx5]
        (repeat (first | exact trivial | (refine ⟨⟨(by first | rfl | (simp; done) | (simp; omega)), rfl⟩, ?_⟩)))
      · exact trivial
    · have hj5 : ¬ j < 5 := by have : ¬ (j : Int) < 5 := by simpa using h
                               omega
      obtain rfl : j = 5 := by omega
      refine zaN (zct (zct (zcR (zbz (zaz (zaF (by kernel_rfl) ?_))))))
      (refine zaa (za3 (by first | exact IntWalk.i64_in _ (by omega) | rfl)) rfl rfl ?_)
      (refine zaa (zav (r := .p _)) rfl rfl ?_)
      refine zac (zaz (⟨m - 1, by omega, _, zah id _ _ ?_ ?_ rfl, k + 1, by omega, rfl⟩))
      · rw [← most_take hq]
        (repeat (first | exact trivial | (refine ⟨⟨(by first | rfl | (simp; done) | (simp; omega)), rfl⟩, ?_⟩)))
      · exact trivial
  · have hge : ¬ k < N := by simpa using h
    refine zaN (zad (zaF (by kernel_rfl) ?_))
    (refine zaa (zav (r := .p _)) rfl rfl ?_)
    (refine zaa (zaw (r := .p _)) rfl rfl ?_)
    refine zac (zaE (⟨(by first | exact .inl rfl | exact .inr rfl), _, (fun o => o), (.tmp _ _ _ _ rfl .nil), ?_, rfl, ?_, rfl⟩))
    · rw [List.take_of_length_le (show Q.length ≤ k by omega)]; first | done | (refine (?_ : _ = _); kernel_rfl)
    · exact trivial
end Go.Proofs.YtbjdjclkbjpebaaGreatDoor
