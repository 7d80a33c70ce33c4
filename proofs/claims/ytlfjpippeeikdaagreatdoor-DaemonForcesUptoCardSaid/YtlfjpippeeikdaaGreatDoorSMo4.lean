/- conf.Copy, conf.Find, the reference's PeerAt, the law's sameConf, over data. -/
import Derived.Test.YtlfjpippeeikdaaGreatDoorSMo3
set_option linter.all false
namespace Go.Proofs.YtlfjpippeeikdaaGreatDoor
open Tryz
open Go.RowKit Go.Sort
set_option maxHeartbeats 16000000
set_option maxRecDepth 100000
theorem nclone_s (l : List NtP) (hn : l.length ≤ 1048576) : Fn prog 73 [.p (.sl l.length 2 (l.flatMap ntC))] (.row 0) [(0, .row 82 2 l.length (l.flatMap ntC))] := by
 have hL : (l.flatMap ntC).length = l.length * 2 := zas (f := ntC) (k := 2) (fun _ => rfl) l
 by_cases h0 : l.length = 0
 ·obtain rfl : l = [] := qaQ h0
  show Fn prog _ [.p (.sl 0 2 [])] (.row 0) [(0, .row 82 2 0 [])]
  refine fnI fun w0 A => ?_
  refine G [8] ?_
  refine jdY (a_seqX U46) ?_
  refine zag (zaE (zfF rfl ?_ ?_))
  ·refine G [4, 9, 0] ?_
   refine zaH (zbY 2 100 82 2 rfl rfl) ?_
   refine zaB (zbs ?_)
   exact jbc
  ·refine G [3] ?_
   refine jdZ (za6 5 U46 sz82) ?_
   refine mP rfl rfl ?_
   refine zab (zaq 7 U46 eo82 (zdh) qy qk rfl rfl) rfl rfl ⟨rfl, rfl, trivial⟩ ?_
   exact jaZ
 ·generalize l.flatMap ntC = L at *
  generalize l.length = n at *
  refine fnI fun w0 A => ?_
  refine G [8] ?_
  refine zaa (a_seqS U46 qk) rfl rfl ?_
  refine zag (zaE (cX (fun h => ?_) fun h => ?_))
  ·cases h
  ·refine G [3] ?_
   refine jdZ (za6 5 U46 sz82) ?_
   refine mP rfl rfl ?_
   refine zab (zaq 7 U46 eo82 (zdh) qy qk (show _ = n by omega) rfl) rfl rfl ⟨rfl, rfl, trivial⟩ ?_
   refine jdc ?_
   refine yT (fun _ => 7) ?_ ?_
   ·exact rfl
   ·exact ⟨⟨rfl, rfl⟩, trivial⟩
theorem pe_push (l : List PE) (i : Nat) (p : PE) (h : l[i]? = some p) : (l.take i).flatMap PE.pv ++ p.pv = (l.take (i + 1)).flatMap PE.pv := by
 obtain ⟨h1, h2⟩ := qaG.1 h
 exact jbP
theorem zcO (c : CF) (ok : c.OK) : Fn prog 40 [.agg c.cells] (.agg [qc c.key, qd c.port, .row 0]) [(0, .row 48 5 c.ps.length (c.ps.flatMap PE.pv))] := by
 obtain ⟨key, port, l⟩ := c
 obtain ⟨hn, ok⟩ := ok
 dsimp only at hn ok
 show Fn prog _ [.agg (cfC key port l.length (l.flatMap PE.pv))] (.agg [qc key, qd port, .row 0]) [(0, .row 48 5 l.length (l.flatMap PE.pv))]
 refine fnI fun w0 A => ?_
 refine G [10] ?_
 refine zab (zhB 9 U22 eo48 qk qk qy) rfl rfl ⟨rfl, trivial⟩ ?_
 refine G [11] ?_
 refine zae (fun m st => ∃ i : Nat, m + i = l.length ∧ st = St.of [(1, .ref 1 0), (2, .ref 2 0), (3, .row 100), (11, .p (.sl l.length 5 (l.flatMap PE.pv))), (12, qd l.length), (13, qd i)] [(1, .box 24 (cfC key port l.length (l.flatMap PE.pv))), (2, .box 24 [qc ⟨#[]⟩, qd 0, qj]), (100, .row 48 5 i ((l.take i).flatMap PE.pv))]) l.length ?_ ?_
 ·exact jbE
 rintro m st ⟨i, hi, rfl⟩
 refine G [5] ?_
 refine cX ?_ ?_ <;> intro h
 ·have hlt : i < l.length := by simp at h; omega
  clear h
  obtain ⟨p, hp⟩ : ∃ p, l[i]? = some p := ⟨l[i], List.getElem?_eq_getElem hlt⟩
  have hch := zaj (f := PE.pv) (k := 5) (fun _ => rfl) hp
  have hle := zak (f := PE.pv) (k := 5) (fun _ => rfl) hlt
  have hpl := (ok p (qaE hp)).2
  have hC := nclone_s p.nets hpl
  have hpush := pe_push l i p hp
  have hil : ((l.take i).flatMap PE.pv).length = i * 5 := by rw [zas (k := 5) (fun _ => rfl), List.length_take, Nat.min_eq_left (by omega)]
  generalize hL : l.flatMap PE.pv = L at *
  generalize (l.take i).flatMap PE.pv = T at *
  obtain ⟨pk, sh, ep, al, nn⟩ := p
  dsimp only at hC hpl
  refine G [8] ?_
  refine jc5 ?_
  refine G [5] ?_
  refine zaM (fun _ => 19) (hC) rfl rfl func73 rfl rfl qr rfl rfl rfl ql rfl rfl rfl ?_
  refine G [3] ?_
  refine zbd (zdO (cs := nn.flatMap ntC) 19 rfl) ?_
  skip
  refine G [3] ?_
  refine jdZ (zai 23 U22 sz48 zc48 (qaA rfl) (qaA rfl) rfl rfl rfl rfl (qaA rfl)) ?_
  refine zab (zaq 24 U22 eo48 (zaU) qy qk rfl rfl) rfl rfl ⟨rfl, rfl, rfl, trivial⟩ ?_
  refine jcV ?_
  refine ⟨m - 1, qk, _, zad (fun o => bif Nat.beq o 100 then 24 else o) _ _ ?_ ?_ rfl, i + 1, qk, rfl⟩
  ·exact ja5
  ·exact ⟨⟨rfl, rfl⟩, ⟨rfl, rfl⟩, ⟨by rw [← hpush]; rfl, rfl⟩, trivial⟩
 have hge : i = l.length := by simp at h; omega
 clear h
 subst hge
 rw [qa5]
 refine G [13, 9, 0] ?_
 exact jbc
def peN (k : ByteArray) : List PE → Nat
 | [] => 0
 | p :: l => if p.key = k then 0 else peN k l + 1
theorem peN_le (k : ByteArray) : ∀ l : List PE, peN k l ≤ l.length
 | [] => Nat.le_refl _
 | p :: l => by
  have := peN_le k l
  unfold peN
  split
  ·omega
  ·rw [qaO]; omega
theorem peN_at {k : ByteArray} : ∀ {l : List PE} {i : Nat}, (hi : i < l.length) → l[i].key = k → (∀ j, (hj : j < i) → l[j].key ≠ k) → peN k l = i
 | p :: l, 0, _, h, _ => by
  have : p.key = k := by simpa using h
  simp [peN, this]
 | p :: l, i + 1, hi, h, hb => by
  have h0 : p.key ≠ k := by simpa using hb 0 qk
  have ih := peN_at (l := l) (i := i) qaj qG (fun j hj => by simpa using hb (j + 1) qk)
  simp [peN, h0, ih]
theorem zin {k : ByteArray} : ∀ {l : List PE}, (∀ j, (hj : j < l.length) → l[j].key ≠ k) → peN k l = l.length
 | [], _ => rfl
 | p :: l, hb => by
  have h0 : p.key ≠ k := hb 0 qz
  have ih := zin (k := k) (l := l) (fun j hj => hb (j + 1) (by simpa using hj))
  simp [peN, h0, ih]
theorem find1_s (p : PE) (k : ByteArray) : Fn prog 80 [.agg p.cells, .ptr [qg k]] (qf (decide (p.key = k))) [] := by
 obtain ⟨pk, sh, ep, al, nn⟩ := p
 show Fn prog _ [.agg [qc pk, qc sh, qc ep, qd al, .p (.sl nn.length 2 (nn.flatMap ntC))], .ptr [qg k]] (qf (decide (pk = k))) _
 exact jbo
def peI (k : ByteArray) (l : List PE) : Int := if peN k l < l.length then peN k l else -1
theorem indexF_s (l : List PE) (k : ByteArray) (hn : l.length ≤ 1048576) : Fn prog 79 [.p (.sl l.length 5 (l.flatMap PE.pv)), .fn 80 [.ptr [qg k]]] (qd (peI k l)) [] := by
 refine fnI fun w0 A => ?_
 refine G [12] ?_
 refine zae (fun m st => ∃ i : Nat, m + i = l.length ∧ (∀ j, (hj : j < i) → (hj2 : j < l.length) → l[j].key ≠ k) ∧ st = St.of [(0, .p (.sl l.length 5 (l.flatMap PE.pv))), (1, .fn 80 [.ptr [qg k]]), (7, qd l.length), (8, qd i)] []) l.length ?_ ?_
 ·refine ⟨_, zad id _ _ ?_ ?_ rfl, 0, qk, fun j hj => by omega, rfl⟩
  ·exact ja5
  ·exact trivial
 rintro m st ⟨i, hi, hb, rfl⟩
 refine G [5] ?_
 refine cX ?_ ?_ <;> intro h
 ·have hlt : i < l.length := by simp at h; omega
  clear h
  have hq : l[i]? = some (l[i]'qk) := List.getElem?_eq_getElem qk
  have hch := zaj (f := PE.pv) (k := 5) (fun _ => rfl) hq
  have hle := zak (f := PE.pv) (k := 5) (fun _ => rfl) hlt
  have hat := @peN_at k l i hlt
  have hstep : (l[i]'qk).key ≠ k → ∀ j, (hj : j < i + 1) → (hj2 : j < l.length) → l[j].key ≠ k := fun hne j hj hj2 => by
   by_cases e : j = i
   ·subst e; exact hne
   ·exact hb j qk hj2
  have hb' : ∀ j, (hj : j < i) → (l[j]'qk).key ≠ k := fun j hj => hb j hj qk
  have hC := find1_s (l[i]'qk) k
  generalize hx : (l[i]'qk) = p at *
  generalize l.flatMap PE.pv = L at *
  refine G [8] ?_
  by_cases hc : p.key = k
  ·have hI : peI k l = i := by unfold peI; rw [hat hc hb', if_pos hlt]
   rw [hI]
   rw [decide_eq_true hc] at hC
   refine G [7] ?_
   refine cK hC ?_
   refine jdh ?_
   exact yE
  ·rw [decide_eq_false hc] at hC
   refine G [7] ?_
   refine cK hC ?_
   refine jcS ?_
   refine ⟨m - 1, qk, _, zad id _ _ ?_ ?_ rfl, i + 1, qk, hstep hc, rfl⟩
   ·exact ja5
   ·exact trivial
 have hge : i = l.length := by simp at h; omega
 clear h
 have hI : peI k l = -1 := by unfold peI; rw [zin fun j hj => hb j (by omega) hj, if_neg (by omega)]
 rw [hI]
 refine jcV ?_
 exact yE
theorem zep (c : CF) (ok : c.OK) (k : ByteArray) : Fn prog 42 [.agg c.cells, qc k] (if peN k c.ps < c.ps.length then .tup [qd (peN k c.ps : Nat), qd 0] else .tup [qd 0, qd 5]) [] := by
 obtain ⟨key, port, l⟩ := c
 have hI := indexF_s l k ok.len
 show Fn prog _ [.agg (cfC key port l.length (l.flatMap PE.pv)), _] (if peN k l < l.length then .tup [qd (peN k l : Nat), qd 0] else .tup [qd 0, qd 5]) _
 obtain ⟨R, hR⟩ : ∃ R, (if peN k l < l.length then AV.tup [qd (peN k l : Nat), qd 0] else .tup [qd 0, qd 5]) = R := ⟨_, rfl⟩
 rw [hR]
 unfold peI at hI
 generalize l.flatMap PE.pv = L at *
 refine fnI fun w0 A => ?_
 refine G [7] ?_
 refine zbd (reo_fzV (cs := [qg k]) 3 rfl rfl) ?_
 by_cases hc : peN k l < l.length
 ·rw [if_pos hc] at hI hR
  subst hR
  generalize peN k l = n at *
  refine G [4] ?_
  refine jdY zeF ?_
  refine cK hI ?_
  refine jdh ?_
  refine cX ?_ ?_ <;> intro h
  ·simp at h; omega
  refine jdh ?_
  exact yE
 ·rw [if_neg hc] at hI hR
  subst hR
  refine G [4] ?_
  refine jdY zeF ?_
  refine cK hI ?_
  refine jdh ?_
  exact jca
theorem zaL (c : CF) (ok : c.OK) (k : ByteArray) : Fn prog 22 [.agg c.cells, qc k] (qd (peN k c.ps : Nat)) [] := by
 obtain ⟨key, port, l⟩ := c
 have hn := ok.len
 dsimp only at hn
 show Fn prog _ [.agg (cfC key port l.length (l.flatMap PE.pv)), _] (qd (peN k l : Nat)) _
 refine fnI fun w0 A => ?_
 refine G [11] ?_
 refine zae (fun m st => ∃ i : Nat, m + i = l.length ∧ (∀ j, (hj : j < i) → (hj2 : j < l.length) → l[j].key ≠ k) ∧ st = St.of [(1, qc k), (2, .ref 2 0), (5, qd i)] [(2, .box 24 (cfC key port l.length (l.flatMap PE.pv)))]) l.length ?_ ?_
 ·exact jbB
 rintro m st ⟨i, hi, hb, rfl⟩
 by_cases hlt : i < l.length
 ·have hq : l[i]? = some (l[i]'qk) := List.getElem?_eq_getElem qk
  have hch := zaj (f := PE.pv) (k := 5) (fun _ => rfl) hq
  have hle := zak (f := PE.pv) (k := 5) (fun _ => rfl) hlt
  have hat := @peN_at k l i hlt
  have hstep : (l[i]'qk).key ≠ k → ∀ j, (hj : j < i + 1) → (hj2 : j < l.length) → l[j].key ≠ k := fun hne j hj hj2 => by
   by_cases e : j = i
   ·subst e; exact hne
   ·exact hb j qk hj2
  have hb' : ∀ j, (hj : j < i) → (l[j]'qk).key ≠ k := fun j hj => hb j hj qk
  generalize hx : (l[i]'qk) = p at *
  have hpk : ((l.flatMap PE.pv).drop (i * 5))[0]? = some (qg p.key) := by
   have := congrArg (fun x => x[0]?) hch
   exact jcI
  generalize l.flatMap PE.pv = L at *
  generalize p.key = pk at *
  by_cases hc : pk = k
  ·rw [hat hc hb']
   refine G [7, 4, 5] ?_
   refine jdY (zah zgq rfl) ?_
   refine jdY (zaN U9 rfl hpk) ?_
   refine G [1, 3, 10, 9, 0] ?_
   exact yE
  ·refine G [7, 4, 5] ?_
   refine jdY (zah zgq rfl) ?_
   refine jdY (zaN U9 rfl hpk) ?_
   refine G [1, 4, 10, 9, 0] ?_
   refine ⟨m - 1, qk, _, zad id _ _ ?_ ?_ rfl, i + 1, qk, hstep hc, rfl⟩
   ·exact ja5
   ·exact ⟨⟨rfl, rfl⟩, trivial⟩
 ·have hge : i = l.length := qk
  rw [zin fun j hj => hb j (by omega) hj]
  subst hge
  refine G [7, 3, 19, 9, 0] ?_
  exact yE
end Go.Proofs.YtlfjpippeeikdaaGreatDoor
namespace Go.Proofs.YtlfjpippeeikdaaGreatDoor
open Go.RowKit Go.Sort
set_option maxRecDepth 100000
end Go.Proofs.YtlfjpippeeikdaaGreatDoor
namespace Go.Proofs.YtlfjpippeeikdaaGreatDoor
open Tryz
open Go.RowKit Go.Sort
set_option maxRecDepth 100000
theorem sclone_s (l : List SE) (hn : l.length ≤ 1048576) : Fn prog 61 [.p (.sl l.length 5 (l.flatMap SE.pv))] (.row 0) [(0, .row 107 5 l.length (l.flatMap SE.pv))] := by
 have hL : (l.flatMap SE.pv).length = l.length * 5 := zas (f := SE.pv) (k := 5) (fun _ => rfl) l
 by_cases h0 : l.length = 0
 ·obtain rfl : l = [] := qaQ h0
  show Fn prog _ [.p (.sl 0 5 [])] (.row 0) [(0, .row 107 5 0 [])]
  refine fnI fun w0 A => ?_
  refine G [8] ?_
  refine jdY (a_seqX U27) ?_
  refine zag (zaE (zfF rfl ?_ ?_))
  ·refine G [4, 9, 0] ?_
   refine zaH (zbY 2 100 107 5 rfl rfl) ?_
   refine zaB (zbs ?_)
   exact jbc
  ·refine G [3] ?_
   refine jdZ (za6 5 U27 zfM) ?_
   refine mP rfl rfl ?_
   refine zab (zaq 7 U27 eo107 (zdh) qy qk rfl rfl) rfl rfl ⟨rfl, rfl, trivial⟩ ?_
   exact jaZ
 ·generalize l.flatMap SE.pv = L at *
  generalize l.length = n at *
  refine fnI fun w0 A => ?_
  refine G [8] ?_
  refine zaa (a_seqS U27 qk) rfl rfl ?_
  refine zag (zaE (cX (fun h => ?_) fun h => ?_))
  ·cases h
  ·refine G [3] ?_
   refine jdZ (za6 5 U27 zfM) ?_
   refine mP rfl rfl ?_
   refine zab (zaq 7 U27 eo107 (zdh) qy qk (show _ = n by omega) rfl) rfl rfl ⟨rfl, rfl, trivial⟩ ?_
   refine jdc ?_
   refine yT (fun _ => 7) ?_ ?_
   ·exact rfl
   ·exact ⟨⟨rfl, rfl⟩, trivial⟩
theorem sgCopy_s (s : SG) (ok : s.OK) : Fn prog 45 [.agg s.cells] (.agg [qf s.lv, .row 0, qc s.c.key, qd s.c.port, .row 1, qc s.at_, qd s.err]) [(0, .row 107 5 s.rest.length (s.rest.flatMap SE.pv)), (1, .row 48 5 s.c.ps.length (s.c.ps.flatMap PE.pv))] := by
 obtain ⟨lv, rest, c, at_, err⟩ := s
 obtain ⟨okr, hl, okc, haz, hkz⟩ := ok
 dsimp only at hl okc
 have hC := zcO c okc
 have hS := sclone_s rest hl
 obtain ⟨key, port, ps⟩ := c
 dsimp only at hC
 change Fn prog _ [.agg [qc key, qd port, .p (.sl ps.length 5 (ps.flatMap PE.pv))]] _ _ at hC
 show Fn prog _ [.agg (sgC lv rest.length (rest.flatMap SE.pv) key port ps.length (ps.flatMap PE.pv) at_ err)] (.agg [qf lv, .row 0, qc key, qd port, .row 1, qc at_, qd err]) [(0, .row 107 5 rest.length (rest.flatMap SE.pv)), (1, .row 48 5 ps.length (ps.flatMap PE.pv))]
 clear okc okr haz hkz hl
 generalize ps.flatMap PE.pv = L at *
 generalize ps.length = M at *
 generalize rest.flatMap SE.pv = R at *
 generalize rest.length = N at *
 refine fnI fun w0 A => ?_
 refine G [9] ?_
 refine zaM (fun _ => 105) (hS) rfl rfl func61 rfl rfl qr rfl rfl rfl ql rfl rfl rfl ?_
 refine G [2] ?_
 refine zaM (fun _ => 108) (hC) rfl rfl F40 rfl rfl qr rfl rfl rfl ql rfl rfl rfl ?_
 refine G [11, 9, 0] ?_
 refine yT (fun o => bif Nat.beq o 0 then 105 else 108) ?_ ?_
 ·exact rfl
 ·exact ⟨⟨rfl, rfl⟩, ⟨rfl, rfl⟩, trivial⟩
end Go.Proofs.YtlfjpippeeikdaaGreatDoor
namespace Go.Proofs.YtlfjpippeeikdaaGreatDoor
open Go.RowKit Go.Sort
set_option maxRecDepth 100000
end Go.Proofs.YtlfjpippeeikdaaGreatDoor
namespace Go.Proofs.YtlfjpippeeikdaaGreatDoor
open Tryz
open Go.RowKit Go.Sort
set_option maxHeartbeats 16000000
set_option maxRecDepth 100000
theorem dmCopyP_s (d : DM) (okc : d.c.OK) (okt : d.tree.length * 40 ≤ 140737488351232) (okp : ∀ s ∈ d.ps, s.OK) (okn : d.ps.length ≤ 1048576) (okg : d.sg.OK) : Fn prog 18 [.agg d.cells] (.agg (moD d (.row 0))) [(0, .row 60 41 d.ps.length (d.ps.flatMap ST.pv))] := by
 have hC : Fn prog 40 [.agg d.c.cells] (.agg d.c.cells) [] := fn_fz (zcO d.c okc) rfl rfl
 have hT : Fn prog 44 [.p (.sl d.tree.length 4 (nds d.tree))] (.p (.sl d.tree.length 4 (nds d.tree))) [] := fn_fz (cloneN_s d.tree.length (nds d.tree) (zem _) (by have := okt; omega)) rfl rfl
 have hS := tcopy_s d.ps okp okn
 have hG : Fn prog 45 [.agg d.sg.cells] (.agg d.sg.cells) [] := fn_fz (sgCopy_s d.sg okg) rfl rfl
 refine fnI fun w0 A => ?_
 refine G [8] ?_
 refine jcL ?_
 refine cK hC ?_
 refine G [2] ?_
 refine cK hT ?_
 refine G [2] ?_
 refine cK hS ?_
 refine fA fi32_3 rfl rfl ?_
 refine jc2 ?_
 refine cK hG ?_
 refine fA fi32_0 rfl rfl ?_
 refine jdZ (zaS (Y := .agg d.c.cells) (es := d.cells) sz24 rfl rfl (qaA rfl) rfl) ?_
 refine fA fi32_1 rfl rfl ?_
 refine jdZ (zaS (Y := .p (.sl d.tree.length 4 (nds d.tree))) (es := d.cells) sz25 rfl rfl (qaA rfl) rfl) ?_
 refine fA zhq rfl rfl ?_
 refine jdZ (zaS (Y := .row 11) (es := moD d (.row 11)) sz26 rfl rfl (qaA rfl) rfl) ?_
 refine fA fi32_3 rfl rfl ?_
 refine jdZ (zaS (Y := .agg d.sg.cells) (es := moD d (.row 11)) sz30 rfl rfl (qaA rfl) rfl) ?_
 refine G [3] ?_
 refine zab (zaf U32 rfl sz32 qo (show _ = moD d (.row 11) from rfl)) rfl rfl ⟨rfl, trivial⟩ ?_
 refine jdZ (zac (Y := .agg (moD d (.row 11))) sz32 rfl rfl (qaB rfl)) ?_
 refine G [2, 9, 0] ?_
 refine yT (fun _ => 11) ?_ ?_
 ·exact rfl
 ·exact ⟨⟨rfl, rfl⟩, trivial⟩
end Go.Proofs.YtlfjpippeeikdaaGreatDoor
