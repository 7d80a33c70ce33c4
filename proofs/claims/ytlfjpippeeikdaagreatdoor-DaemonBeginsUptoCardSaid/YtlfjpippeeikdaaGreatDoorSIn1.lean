/- Used. -/
import Derived.Test.YtlfjpippeeikdaaGreatDoorSMo3
set_option maxRecDepth 100000
set_option maxHeartbeats 16000000
set_option linter.all false
namespace Go.Proofs.YtlfjpippeeikdaaGreatDoor
open Tryz
open Go.RowKit
open Go.Sort
theorem nclone_s (l : List NtP) (hn : l.length ≤ 1048576) : Fn prog 73 [ql l.length 2 (l.flatMap ntC)] (.row 0) [(0, .row 82 2 l.length (l.flatMap ntC))] := by
 have hL : (l.flatMap ntC).length = l.length * 2 := zap (f := ntC) (k := 2) (fun _ => rfl) l
 by_cases h0 : l.length = 0
 ·obtain rfl : l = [] := qbt h0
  show Fn prog _ [ql 0 2 []] (.row 0) [(0, .row 82 2 0 [])]
  refine fnI fun w0 A => ?_
  refine G [8] ?_
  refine jfb (a_seqX U46) ?_
  refine je1 ?_
  refine zf2 rfl ?_ ?_
  ·refine G [4, 9, 0] ?_
   refine zaK (zbF 2 100 82 2 rfl rfl) ?_
   refine zaA (zbA ?_)
   exact jaO
  ·refine G [3] ?_
   refine jfc (za5 5 U46 sz82) ?_
   refine jdJ ?_
   refine zab (zaq 7 U46 eo82 (zcF) qB qp rfl rfl) rfl rfl ⟨rfl, rfl, trivial⟩ ?_
   exact jbr
 ·generalize l.flatMap ntC = L at *
  generalize l.length = n at *
  refine fnI fun w0 A => ?_
  refine G [8] ?_
  refine zaa (a_seqS U46 qp) rfl rfl ?_
  refine je1 ?_
  refine cX ?_ ?_ <;> intro h
  ·cases h
  ·refine G [3] ?_
   refine jfc (za5 5 U46 sz82) ?_
   refine jdJ ?_
   refine zab (zaq 7 U46 eo82 (zcF) qB qp (show _ = n by omega) rfl) rfl rfl ⟨rfl, rfl, trivial⟩ ?_
   refine jdR ?_
   refine yT (fun _ => 7) ?_ ?_
   ·exact rfl
   ·exact ja3
theorem pe_push (l : List PE) (i : Nat) (p : PE) (h : l[i]? = some p) : (l.take i).flatMap PE.pv ++ p.pv = (l.take (i + 1)).flatMap PE.pv := by
 obtain ⟨h1, h2⟩ := qbl.1 h
 exact jch
theorem zcv (c : CF) (ok : c.OK) : Fn prog 40 [.agg c.cells] (.agg [qc c.key, qd c.port, .row 0]) [(0, .row 48 5 c.ps.length (c.ps.flatMap PE.pv))] := by
 obtain ⟨key, port, l⟩ := c
 obtain ⟨hn, ok⟩ := ok
 dsimp only at hn ok
 show Fn prog _ [.agg (cfC key port l.length (l.flatMap PE.pv))] (.agg [qc key, qd port, .row 0]) [(0, .row 48 5 l.length (l.flatMap PE.pv))]
 refine fnI fun w0 A => ?_
 refine G [10] ?_
 refine zab (zh4 9 U22 eo48 qp qp qB) rfl rfl ⟨rfl, trivial⟩ ?_
 refine G [11] ?_
 refine zac (fun m st => ∃ i : Nat, m + i = l.length ∧ st = St.of [(1, .ref 1 0), (2, .ref 2 0), (3, .row 100), (11, ql l.length 5 (l.flatMap PE.pv)), (12, qd l.length), (13, qd i)] [(1, .box 24 (cfC key port l.length (l.flatMap PE.pv))), (2, .box 24 [qc ⟨#[]⟩, qd 0, qm]), (100, .row 48 5 i ((l.take i).flatMap PE.pv))]) l.length ?_ ?_
 ·exact jc5
 rintro m st ⟨i, hi, rfl⟩
 refine G [5] ?_
 refine cX ?_ ?_ <;> intro h
 ·have hlt : i < l.length := qu
  clear h
  obtain ⟨p, hp⟩ := qo hlt
  have hch := zaj (f := PE.pv) (k := 5) (fun _ => rfl) hp
  have hle := zai (f := PE.pv) (k := 5) (fun _ => rfl) hlt
  have hpl := (ok p (qbh hp)).2
  have hC := nclone_s p.nets hpl
  have hpush := pe_push l i p hp
  have hil : ((l.take i).flatMap PE.pv).length = i * 5 := qar
  generalize hL : l.flatMap PE.pv = L at *
  generalize (l.take i).flatMap PE.pv = T at *
  obtain ⟨pk, sh, ep, al, nn⟩ := p
  dsimp only at hC hpl
  refine G [8] ?_
  refine jdG ?_
  refine G [5] ?_
  refine zay (fun _ => 19) (hC) rfl rfl func73 rfl rfl qw rfl rfl rfl qq rfl rfl rfl ?_
  refine G [3] ?_
  refine za7 (zcL (cs := nn.flatMap ntC) 19 rfl) ?_
  skip
  refine G [3] ?_
  refine jfc (zag 23 U22 sz48 zc48 (qbe rfl) (qbe rfl) rfl rfl rfl rfl (qbe rfl)) ?_
  refine zab (zaq 24 U22 eo48 (zaS) qB qp rfl rfl) rfl rfl ⟨rfl, rfl, rfl, trivial⟩ ?_
  refine jdI ?_
  refine ⟨m - 1, qp, _, zae (fun o => bif Nat.beq o 100 then 24 else o) _ _ ?_ ?_ rfl, i + 1, qp, rfl⟩
  ·exact jap
  ·exact ⟨⟨rfl, rfl⟩, ⟨rfl, rfl⟩, ⟨by rw [← hpush]; rfl, rfl⟩, trivial⟩
 have hge : i = l.length := qu
 clear h
 subst hge
 rw [qbI]
 refine G [13, 9, 0] ?_
 exact jaO
def peN (k : ByteArray) : List PE → Nat
 | [] => 0
 | p :: l => if p.key = k then 0 else peN k l + 1
theorem peN_le (k : ByteArray) : ∀ l : List PE, peN k l ≤ l.length
 | [] => Nat.le_refl _
 | p :: l => by
  have := peN_le k l
  unfold peN
  split
  ·omega
  ·rw [qbs]; omega
theorem peN_at {k : ByteArray} : ∀ {l : List PE} {i : Nat}, (hi : i < l.length) → l[i].key = k → (∀ j, (hj : j < i) → l[j].key ≠ k) → peN k l = i
 | p :: l, 0, _, h, _ => by
  have : p.key = k := qz
  simp [peN, this]
 | p :: l, i + 1, hi, h, hb => by
  have h0 : p.key ≠ k := by simpa using hb 0 qp
  have ih := peN_at (l := l) (i := i) qX qz (fun j hj => by simpa using hb (j + 1) qp)
  simp [peN, h0, ih]
theorem ziS {k : ByteArray} : ∀ {l : List PE}, (∀ j, (hj : j < l.length) → l[j].key ≠ k) → peN k l = l.length
 | [], _ => rfl
 | p :: l, hb => by
  have h0 : p.key ≠ k := hb 0 qC
  have ih := ziS (k := k) (l := l) (fun j hj => hb (j + 1) (by simpa using hj))
  simp [peN, h0, ih]
theorem find1_s (p : PE) (k : ByteArray) : Fn prog 80 [.agg p.cells, .ptr [qg k]] (qf (decide (p.key = k))) [] := by
 obtain ⟨pk, sh, ep, al, nn⟩ := p
 show Fn prog _ [.agg [qc pk, qc sh, qc ep, qd al, ql nn.length 2 (nn.flatMap ntC)], .ptr [qg k]] (qf (decide (pk = k))) _
 exact jbI
def peI (k : ByteArray) (l : List PE) : Int := if peN k l < l.length then peN k l else -1
theorem indexF_s (l : List PE) (k : ByteArray) (hn : l.length ≤ 1048576) : Fn prog 79 [ql l.length 5 (l.flatMap PE.pv), .fn 80 [.ptr [qg k]]] (qd (peI k l)) [] := by
 refine fnI fun w0 A => ?_
 refine G [12] ?_
 refine zac (fun m st => ∃ i : Nat, m + i = l.length ∧ (∀ j, (hj : j < i) → (hj2 : j < l.length) → l[j].key ≠ k) ∧ st = St.of [(0, ql l.length 5 (l.flatMap PE.pv)), (1, .fn 80 [.ptr [qg k]]), (7, qd l.length), (8, qd i)] []) l.length ?_ ?_
 ·refine ⟨_, zae id _ _ ?_ ?_ rfl, 0, qp, fun j hj => by omega, rfl⟩
  ·exact jap
  ·exact trivial
 rintro m st ⟨i, hi, hb, rfl⟩
 refine G [5] ?_
 refine cX ?_ ?_ <;> intro h
 ·have hlt : i < l.length := qu
  clear h
  have hq : l[i]? = some (l[i]'qp) := List.getElem?_eq_getElem qp
  have hch := zaj (f := PE.pv) (k := 5) (fun _ => rfl) hq
  have hle := zai (f := PE.pv) (k := 5) (fun _ => rfl) hlt
  have hat := @peN_at k l i hlt
  have hstep : (l[i]'qp).key ≠ k → ∀ j, (hj : j < i + 1) → (hj2 : j < l.length) → l[j].key ≠ k := fun hne j hj hj2 => by
   by_cases e : j = i
   ·subst e; exact hne
   ·exact hb j qp hj2
  have hb' : ∀ j, (hj : j < i) → (l[j]'qp).key ≠ k := fun j hj => hb j hj qp
  have hC := find1_s (l[i]'qp) k
  generalize hx : (l[i]'qp) = p at *
  generalize l.flatMap PE.pv = L at *
  refine G [8] ?_
  by_cases hc : p.key = k
  ·have hI : peI k l = i := by unfold peI; rw [hat hc hb', if_pos hlt]
   rw [hI]
   rw [decide_eq_true hc] at hC
   refine G [7] ?_
   refine cK hC ?_
   exact jbh
  ·rw [decide_eq_false hc] at hC
   refine G [7] ?_
   refine cK hC ?_
   refine jdv ?_
   refine ⟨m - 1, qp, _, zae id _ _ ?_ ?_ rfl, i + 1, qp, hstep hc, rfl⟩
   ·exact jap
   ·exact trivial
 have hge : i = l.length := qu
 clear h
 have hI : peI k l = -1 := by unfold peI; rw [ziS fun j hj => hb j (by omega) hj, if_neg (by omega)]
 rw [hI]
 exact jaH
theorem zgO (c : CF) (ok : c.OK) (k : ByteArray) : Fn prog 42 [.agg c.cells, qc k] (if peN k c.ps < c.ps.length then .tup [qd (peN k c.ps : Nat), qd 0] else .tup [qd 0, qd 5]) [] := by
 obtain ⟨key, port, l⟩ := c
 have hI := indexF_s l k ok.len
 show Fn prog _ [.agg (cfC key port l.length (l.flatMap PE.pv)), _] (if peN k l < l.length then .tup [qd (peN k l : Nat), qd 0] else .tup [qd 0, qd 5]) _
 obtain ⟨R, hR⟩ : ∃ R, (if peN k l < l.length then AV.tup [qd (peN k l : Nat), qd 0] else .tup [qd 0, qd 5]) = R := ⟨_, rfl⟩
 rw [hR]
 unfold peI at hI
 generalize l.flatMap PE.pv = L at *
 refine fnI fun w0 A => ?_
 refine G [7] ?_
 refine za7 (reo_fzV (cs := [qg k]) 3 rfl rfl) ?_
 by_cases hc : peN k l < l.length
 ·rw [if_pos hc] at hI hR
  subst hR
  generalize peN k l = n at *
  refine G [4] ?_
  refine jfb zeO ?_
  refine cK hI ?_
  refine jdQ ?_
  refine cX ?_ ?_ <;> intro h
  ·simp at h; omega
  exact jbh
 ·rw [if_neg hc] at hI hR
  subst hR
  refine G [4] ?_
  refine jfb zeO ?_
  refine cK hI ?_
  refine jdQ ?_
  exact jbR
theorem zaM (c : CF) (ok : c.OK) (k : ByteArray) : Fn prog 22 [.agg c.cells, qc k] (qd (peN k c.ps : Nat)) [] := by
 obtain ⟨key, port, l⟩ := c
 have hn := ok.len
 dsimp only at hn
 show Fn prog _ [.agg (cfC key port l.length (l.flatMap PE.pv)), _] (qd (peN k l : Nat)) _
 refine fnI fun w0 A => ?_
 refine G [11] ?_
 refine zac (fun m st => ∃ i : Nat, m + i = l.length ∧ (∀ j, (hj : j < i) → (hj2 : j < l.length) → l[j].key ≠ k) ∧ st = St.of [(1, qc k), (2, .ref 2 0), (5, qd i)] [(2, .box 24 (cfC key port l.length (l.flatMap PE.pv)))]) l.length ?_ ?_
 ·exact jdp
 rintro m st ⟨i, hi, hb, rfl⟩
 by_cases hlt : i < l.length
 ·have hq : l[i]? = some (l[i]'qp) := List.getElem?_eq_getElem qp
  have hch := zaj (f := PE.pv) (k := 5) (fun _ => rfl) hq
  have hle := zai (f := PE.pv) (k := 5) (fun _ => rfl) hlt
  have hat := @peN_at k l i hlt
  have hstep : (l[i]'qp).key ≠ k → ∀ j, (hj : j < i + 1) → (hj2 : j < l.length) → l[j].key ≠ k := fun hne j hj hj2 => by
   by_cases e : j = i
   ·subst e; exact hne
   ·exact hb j qp hj2
  have hb' : ∀ j, (hj : j < i) → (l[j]'qp).key ≠ k := fun j hj => hb j hj qp
  generalize hx : (l[i]'qp) = p at *
  have hpk : ((l.flatMap PE.pv).drop (i * 5))[0]? = some (qg p.key) := by
   have := congrArg (fun x => x[0]?) hch
   exact jcD
  generalize l.flatMap PE.pv = L at *
  generalize p.key = pk at *
  by_cases hc : pk = k
  ·rw [hat hc hb']
   refine G [7, 4, 5] ?_
   refine jeU ?_
   refine G [1, 3, 10, 9, 0] ?_
   exact yE
  ·refine G [7, 4, 5] ?_
   refine jeU ?_
   refine G [1, 4, 10, 9, 0] ?_
   refine ⟨m - 1, qp, _, zae id _ _ ?_ ?_ rfl, i + 1, qp, hstep hc, rfl⟩
   ·exact jap
   ·exact ja3
 ·have hge : i = l.length := qp
  rw [ziS fun j hj => hb j (by omega) hj]
  subst hge
  refine G [7, 3, 19, 9, 0] ?_
  exact yE
theorem zeG (c : CF) (ok : c.OK) : Fn Tryz.prog 63 [.agg c.cells] (.agg [qc c.key, qd c.port, .row 0]) [(0, .row 48 5 c.ps.length (c.ps.flatMap PE.pv))] := by
 obtain ⟨key, port, l⟩ := c
 obtain ⟨hn, ok⟩ := ok
 dsimp only at hn ok
 show Fn Tryz.prog _ [.agg (cfC key port l.length (l.flatMap PE.pv))] (.agg [qc key, qd port, .row 0]) [(0, .row 48 5 l.length (l.flatMap PE.pv))]
 refine fnI fun w0 A => ?_
 refine G [13] ?_
 refine jfc (zad (Y := .agg [qc key, qd port, qm]) sz24 rfl rfl (qbf rfl)) ?_
 refine je1 ?_
 refine zaK (re_nilB 3 (cs := [qc key, qd port, qm]) 2 100 48 5 rfl rfl rfl) ?_
 refine G [9] ?_
 refine zac (fun m st => ∃ i : Nat, m + i = l.length ∧ st = St.of [(2, .ref 2 0), (3, .ref 3 0), (12, ql l.length 5 (l.flatMap PE.pv)), (13, qd l.length), (14, qd i)] [(2, .box 24 [qc ⟨#[]⟩, qd 0, qm]), (3, .box 24 [qc key, qd port, .row 100]), (100, .row 48 5 i ((l.take i).flatMap PE.pv))]) l.length ?_ ?_
 ·exact jcF
 rintro m st ⟨i, hi, rfl⟩
 refine G [5] ?_
 refine cX ?_ ?_ <;> intro h
 ·have hlt : i < l.length := qu
  clear h
  obtain ⟨p, hp⟩ := qo hlt
  have hch := zaj (f := PE.pv) (k := 5) (fun _ => rfl) hp
  have hle := zai (f := PE.pv) (k := 5) (fun _ => rfl) hlt
  have hpl := (ok p (qbh hp)).2
  have hpush := pe_push l i p hp
  have hil : ((l.take i).flatMap PE.pv).length = i * 5 := qar
  generalize hL : l.flatMap PE.pv = L at *
  generalize (l.take i).flatMap PE.pv = T at *
  obtain ⟨pk, sh, ep, al, nn⟩ := p
  dsimp only at hpl
  have hnl : (nn.flatMap ntC).length = nn.length * 2 := zap (f := ntC) (k := 2) (fun _ => rfl) nn
  change T ++ [qg pk, qg sh, qg ep, qh al, .sl nn.length 2 (nn.flatMap ntC)] = _ at hpush
  change _ = ([qg pk, qg sh, qg ep, qh al, .sl nn.length 2 (nn.flatMap ntC)] : List PV) at hch
  generalize nn.flatMap ntC = NL at *
  generalize nn.length = nl at *
  refine G [8] ?_
  refine jfc (zad (Y := .agg [qc pk, qc sh, qc ep, qd al, ql nl 2 NL]) sz48 rfl rfl (qbf rfl)) ?_
  refine G [5] ?_
  refine zab (zcb 20 U46 eo82 (zcF) qB qp) rfl rfl ⟨rfl, trivial⟩ ?_
  refine G [3] ?_
  refine za7 (zcL (cs := NL) 20 rfl) ?_
  skip
  refine jeQ ?_
  refine ⟨m - 1, qp, _, zae (fun o => bif Nat.beq o 100 then 26 else o) _ _ ?_ ?_ rfl, i + 1, qp, rfl⟩
  ·exact jap
  ·exact ⟨⟨rfl, rfl⟩, ⟨rfl, rfl⟩, ⟨by rw [← hpush]; rfl, rfl⟩, trivial⟩
 exact jbf
theorem sclone_s (l : List SE) (hn : l.length ≤ 1048576) : Fn prog 61 [ql l.length 5 (l.flatMap SE.pv)] (.row 0) [(0, .row 107 5 l.length (l.flatMap SE.pv))] := by
 have hL : (l.flatMap SE.pv).length = l.length * 5 := zap (f := SE.pv) (k := 5) (fun _ => rfl) l
 by_cases h0 : l.length = 0
 ·obtain rfl : l = [] := qbt h0
  show Fn prog _ [ql 0 5 []] (.row 0) [(0, .row 107 5 0 [])]
  refine fnI fun w0 A => ?_
  refine G [8] ?_
  refine jfb (a_seqX U27) ?_
  refine je1 ?_
  refine zf2 rfl ?_ ?_
  ·refine G [4, 9, 0] ?_
   refine zaK (zbF 2 100 107 5 rfl rfl) ?_
   refine zaA (zbA ?_)
   exact jaO
  ·refine G [3] ?_
   refine jfc (za5 5 U27 zdJ) ?_
   refine jdJ ?_
   refine zab (zaq 7 U27 eo107 (zcF) qB qp rfl rfl) rfl rfl ⟨rfl, rfl, trivial⟩ ?_
   exact jbr
 ·generalize l.flatMap SE.pv = L at *
  generalize l.length = n at *
  refine fnI fun w0 A => ?_
  refine G [8] ?_
  refine zaa (a_seqS U27 qp) rfl rfl ?_
  refine je1 ?_
  refine cX ?_ ?_ <;> intro h
  ·cases h
  ·refine G [3] ?_
   refine jfc (za5 5 U27 zdJ) ?_
   refine jdJ ?_
   refine zab (zaq 7 U27 eo107 (zcF) qB qp (show _ = n by omega) rfl) rfl rfl ⟨rfl, rfl, trivial⟩ ?_
   refine jdR ?_
   refine yT (fun _ => 7) ?_ ?_
   ·exact rfl
   ·exact ja3
theorem sgCopy_s (s : SG) (ok : s.OK) : Fn prog 45 [.agg s.cells] (.agg [qf s.lv, .row 0, qc s.c.key, qd s.c.port, .row 1, qc s.at_, qd s.err]) [(0, .row 107 5 s.rest.length (s.rest.flatMap SE.pv)), (1, .row 48 5 s.c.ps.length (s.c.ps.flatMap PE.pv))] := by
 obtain ⟨lv, rest, c, at_, err⟩ := s
 obtain ⟨okr, hl, okc, haz, hkz⟩ := ok
 dsimp only at hl okc
 have hC := zcv c okc
 have hS := sclone_s rest hl
 obtain ⟨key, port, ps⟩ := c
 dsimp only at hC
 change Fn prog _ [.agg [qc key, qd port, ql ps.length 5 (ps.flatMap PE.pv)]] _ _ at hC
 show Fn prog _ [.agg (sgC lv rest.length (rest.flatMap SE.pv) key port ps.length (ps.flatMap PE.pv) at_ err)] (.agg [qf lv, .row 0, qc key, qd port, .row 1, qc at_, qd err]) [(0, .row 107 5 rest.length (rest.flatMap SE.pv)), (1, .row 48 5 ps.length (ps.flatMap PE.pv))]
 clear okc okr haz hkz hl
 generalize ps.flatMap PE.pv = L at *
 generalize ps.length = M at *
 generalize rest.flatMap SE.pv = R at *
 generalize rest.length = N at *
 refine fnI fun w0 A => ?_
 refine G [9] ?_
 refine zay (fun _ => 105) (hS) rfl rfl func61 rfl rfl qw rfl rfl rfl qq rfl rfl rfl ?_
 refine G [2] ?_
 refine zay (fun _ => 108) (hC) rfl rfl F40 rfl rfl qw rfl rfl rfl qq rfl rfl rfl ?_
 refine G [11, 9, 0] ?_
 refine yT (fun o => bif Nat.beq o 0 then 105 else 108) ?_ ?_
 ·exact rfl
 ·exact ja5
theorem rsgCopyD_s (s : SG) (ok : s.OK) : Fn prog 64 [.agg s.cells] (.agg s.cells) [] := by
 have hC : Fn prog 63 [.agg s.c.cells] (.agg s.c.cells) [] := zi7 (zeG s.c ok.c) rfl rfl
 have hl := ok.len
 refine fnI fun w0 A => ?_
 refine G [11] ?_
 refine zab (zjn (zcb 7 U27 eo107 (zcF) qB qp)) rfl rfl ⟨rfl, trivial⟩ ?_
 refine fA fi30_2 rfl rfl ?_
 refine zab (zao U24 rfl sz24 qv (show _ = s.c.cells from rfl)) rfl rfl ⟨rfl, trivial⟩ ?_
 refine cK hC ?_
 refine G [5] ?_
 refine jfc (zad (Y := .agg s.cells) sz30 rfl rfl (qbf rfl)) ?_
 refine G [2, 9, 0] ?_
 exact yE
theorem rdmCopy_s (d : DM) (ok : d.OK) : Fn prog 31 [.agg d.cells] (.agg (moD d (.row 0))) [(0, .row 60 41 d.ps.length (d.ps.flatMap ST.pv))] := by
 have hC : Fn prog 63 [.agg d.c.cells] (.agg d.c.cells) [] := zi7 (zeG d.c ok.c) rfl rfl
 have hS := rcopy_s d.ps (fun s hs => (ok.ps s hs).1) ok.psN
 have hG := rsgCopyD_s d.sg ok.sg
 have ht := ok.treeN
 refine fnI fun w0 A => ?_
 refine G [8] ?_
 refine jer ?_
 refine cK hC ?_
 refine G [2] ?_
 refine zab (zjn (zcb 8 U25 eo84 (zcF) qB qp)) rfl rfl ⟨rfl, trivial⟩ ?_
 refine G [2] ?_
 refine cK hS ?_
 refine fA fi32_3 rfl rfl ?_
 refine jem ?_
 refine cK hG ?_
 refine G [7] ?_
 exact jbY
theorem dmCopyP_s (d : DM) (okc : d.c.OK) (okt : d.tree.length * 40 ≤ 140737488351232) (okp : ∀ s ∈ d.ps, s.OK) (okn : d.ps.length ≤ 1048576) (okg : d.sg.OK) : Fn prog 18 [.agg d.cells] (.agg (moD d (.row 0))) [(0, .row 60 41 d.ps.length (d.ps.flatMap ST.pv))] := by
 have hC : Fn prog 40 [.agg d.c.cells] (.agg d.c.cells) [] := zi7 (zcv d.c okc) rfl rfl
 have hT : Fn prog 44 [ql d.tree.length 4 (nds d.tree)] (ql d.tree.length 4 (nds d.tree)) [] := zi7 (cloneN_s d.tree.length (nds d.tree) (zev _) (by have := okt; omega)) rfl rfl
 have hS := tcopy_s d.ps okp okn
 have hG : Fn prog 45 [.agg d.sg.cells] (.agg d.sg.cells) [] := zi7 (sgCopy_s d.sg okg) rfl rfl
 refine fnI fun w0 A => ?_
 refine G [8] ?_
 refine jer ?_
 refine cK hC ?_
 refine G [2] ?_
 refine cK hT ?_
 refine G [2] ?_
 refine cK hS ?_
 refine fA fi32_3 rfl rfl ?_
 refine jem ?_
 refine cK hG ?_
 refine fA fi32_0 rfl rfl ?_
 refine jfc (zcM (Y := .agg d.c.cells) (es := d.cells) sz24 rfl rfl (qbe rfl) rfl) ?_
 refine fA fi32_1 rfl rfl ?_
 refine jfc (zcM (Y := ql d.tree.length 4 (nds d.tree)) (es := d.cells) sz25 rfl rfl (qbe rfl) rfl) ?_
 refine fA fi32_2 rfl rfl ?_
 refine jfc (zcM (Y := .row 11) (es := moD d (.row 11)) sz26 rfl rfl (qbe rfl) rfl) ?_
 refine fA fi32_3 rfl rfl ?_
 refine jfc (zcM (Y := .agg d.sg.cells) (es := moD d (.row 11)) sz30 rfl rfl (qbe rfl) rfl) ?_
 refine G [3] ?_
 refine zab (zao U32 rfl sz32 qv (show _ = moD d (.row 11) from rfl)) rfl rfl ⟨rfl, trivial⟩ ?_
 exact jbY
theorem dmCopyR_s (d : DM) (ok : d.OK) : Fn prog 18 [.agg d.cells] (.agg (moD d (.row 0))) [(0, .row 60 41 d.ps.length (d.ps.flatMap ST.pv))] := dmCopyP_s d ok.c ok.treeN (fun s hs => (ok.ps s hs).1) ok.psN ok.sg
def W0 : ByteArray := ⟨#[]⟩
def W1 : ByteArray := ⟨#[112, 114, 105, 118, 97, 116, 101, 95, 107, 101, 121]⟩
def W2 : ByteArray := ⟨#[108, 105, 115, 116, 101, 110, 95, 112, 111, 114, 116]⟩
def W3 : ByteArray := ⟨#[114, 101, 112, 108, 97, 99, 101, 95, 112, 101, 101, 114, 115]⟩
def W4 : ByteArray := ⟨#[112, 117, 98, 108, 105, 99, 95, 107, 101, 121]⟩
def W5 : ByteArray := ⟨#[114, 101, 109, 111, 118, 101]⟩
def W6 : ByteArray := ⟨#[112, 114, 101, 115, 104, 97, 114, 101, 100, 95, 107, 101, 121]⟩
def W7 : ByteArray := ⟨#[101, 110, 100, 112, 111, 105, 110, 116]⟩
def W8 : ByteArray := ⟨#[112, 101, 114, 115, 105, 115, 116, 101, 110, 116, 95, 107, 101, 101, 112, 97, 108, 105, 118, 101, 95, 105, 110, 116, 101, 114, 118, 97, 108]⟩
def W9 : ByteArray := ⟨#[114, 101, 112, 108, 97, 99, 101, 95, 97, 108, 108, 111, 119, 101, 100, 95, 105, 112, 115]⟩
def W10 : ByteArray := ⟨#[97, 108, 108, 111, 119, 101, 100, 95, 105, 112]⟩
def TRUES : ByteArray := ⟨#[116, 114, 117, 101]⟩
def WORDS : List ByteArray := [W0, W1, W2, W3, W4, W5, W6, W7, W8, W9, W10]
def WORDSA : List AV := [qc W0, qc W1, qc W2, qc W3, qc W4, qc W5, qc W6, qc W7, qc W8, qc W9, qc W10]
def zbd : List PV := [qg W0, qg W1, qg W2, qg W3, qg W4, qg W5, qg W6, qg W7, qg W8, qg W9, qg W10]
def word (k : Int) : ByteArray := WORDS.getD k.toNat ⟨#[]⟩
theorem word_at {k : Int} (h0 : 0 ≤ k) (h1 : k < 11) : WORDSA[k.toNat * 1]? = some (qc (word k)) := by
 have : k = 0 ∨ k = 1 ∨ k = 2 ∨ k = 3 ∨ k = 4 ∨ k = 5 ∨ k = 6 ∨ k = 7 ∨ k = 8 ∨ k = 9 ∨ k = 10 := qp
 rcases this with rfl | rfl | rfl | rfl | rfl | rfl | rfl | rfl | rfl | rfl | rfl <;> rfl
theorem words_s : Fn prog 124 [] (.agg WORDSA) [] := by
 show Fn prog _ [] (.agg [qc ⟨#[]⟩, qc ⟨#[112, 114, 105, 118, 97, 116, 101, 95, 107, 101, 121]⟩, qc ⟨#[108, 105, 115, 116, 101, 110, 95, 112, 111, 114, 116]⟩, qc ⟨#[114, 101, 112, 108, 97, 99, 101, 95, 112, 101, 101, 114, 115]⟩, qc ⟨#[112, 117, 98, 108, 105, 99, 95, 107, 101, 121]⟩, qc ⟨#[114, 101, 109, 111, 118, 101]⟩, qc ⟨#[112, 114, 101, 115, 104, 97, 114, 101, 100, 95, 107, 101, 121]⟩, qc ⟨#[101, 110, 100, 112, 111, 105, 110, 116]⟩, qc ⟨#[112, 101, 114, 115, 105, 115, 116, 101, 110, 116, 95, 107, 101, 101, 112, 97, 108, 105, 118, 101, 95, 105, 110, 116, 101, 114, 118, 97, 108]⟩, qc ⟨#[114, 101, 112, 108, 97, 99, 101, 95, 97, 108, 108, 111, 119, 101, 100, 95, 105, 112, 115]⟩, qc ⟨#[97, 108, 108, 111, 119, 101, 100, 95, 105, 112]⟩]) []
 refine zcr func124 rfl (qbe rfl) fun w0 A => ?_
 refine zal (tx (jfc (zaW 0 zr174 rfl) ?_))
 refine zaf (zal (tx (jfb (zeR U174 zr174 rfl sz9 rfl) ?_)))
 refine zab (zad (Y := .agg _) sz174 rfl qI (qbf rfl)) rfl rfl ⟨rfl, trivial⟩ ?_
 refine zaf (zaA (fT (fun o => o) (.cellN _ _ _ _ _ _ _ _ _ rfl rfl U174 rfl sz174 qax .nil) ?_ ?_))
 ·exact rfl
 ·exact trivial
theorem zdg : Fn prog 137 [] (ql 11 1 zbd) [] := by
 show Fn prog _ [] (ql 11 1 [qg ⟨#[]⟩, qg ⟨#[112, 114, 105, 118, 97, 116, 101, 95, 107, 101, 121]⟩, qg ⟨#[108, 105, 115, 116, 101, 110, 95, 112, 111, 114, 116]⟩, qg ⟨#[114, 101, 112, 108, 97, 99, 101, 95, 112, 101, 101, 114, 115]⟩, qg ⟨#[112, 117, 98, 108, 105, 99, 95, 107, 101, 121]⟩, qg ⟨#[114, 101, 109, 111, 118, 101]⟩, qg ⟨#[112, 114, 101, 115, 104, 97, 114, 101, 100, 95, 107, 101, 121]⟩, qg ⟨#[101, 110, 100, 112, 111, 105, 110, 116]⟩, qg ⟨#[112, 101, 114, 115, 105, 115, 116, 101, 110, 116, 95, 107, 101, 101, 112, 97, 108, 105, 118, 101, 95, 105, 110, 116, 101, 114, 118, 97, 108]⟩, qg ⟨#[114, 101, 112, 108, 97, 99, 101, 95, 97, 108, 108, 111, 119, 101, 100, 95, 105, 112, 115]⟩, qg ⟨#[97, 108, 108, 111, 119, 101, 100, 95, 105, 112]⟩]) []
 refine fnI fun w0 A => ?_
 refine G [6] ?_
 refine zab (xs := [qc ⟨#[]⟩, qc ⟨#[112, 114, 105, 118, 97, 116, 101, 95, 107, 101, 121]⟩, qc ⟨#[108, 105, 115, 116, 101, 110, 95, 112, 111, 114, 116]⟩, qc ⟨#[114, 101, 112, 108, 97, 99, 101, 95, 112, 101, 101, 114, 115]⟩, qc ⟨#[112, 117, 98, 108, 105, 99, 95, 107, 101, 121]⟩, qc ⟨#[114, 101, 109, 111, 118, 101]⟩, qc ⟨#[112, 114, 101, 115, 104, 97, 114, 101, 100, 95, 107, 101, 121]⟩, qc ⟨#[101, 110, 100, 112, 111, 105, 110, 116]⟩, qc ⟨#[112, 101, 114, 115, 105, 115, 116, 101, 110, 116, 95, 107, 101, 101, 112, 97, 108, 105, 118, 101, 95, 105, 110, 116, 101, 114, 118, 97, 108]⟩, qc ⟨#[114, 101, 112, 108, 97, 99, 101, 95, 97, 108, 108, 111, 119, 101, 100, 95, 105, 112, 115]⟩, qc ⟨#[97, 108, 108, 111, 119, 101, 100, 95, 105, 112]⟩]) (zag (es := [qc ⟨#[]⟩, qc ⟨#[112, 114, 105, 118, 97, 116, 101, 95, 107, 101, 121]⟩, qc ⟨#[108, 105, 115, 116, 101, 110, 95, 112, 111, 114, 116]⟩, qc ⟨#[114, 101, 112, 108, 97, 99, 101, 95, 112, 101, 101, 114, 115]⟩, qc ⟨#[112, 117, 98, 108, 105, 99, 95, 107, 101, 121]⟩, qc ⟨#[114, 101, 109, 111, 118, 101]⟩, qc ⟨#[112, 114, 101, 115, 104, 97, 114, 101, 100, 95, 107, 101, 121]⟩, qc ⟨#[101, 110, 100, 112, 111, 105, 110, 116]⟩, qc ⟨#[112, 101, 114, 115, 105, 115, 116, 101, 110, 116, 95, 107, 101, 101, 112, 97, 108, 105, 118, 101, 95, 105, 110, 116, 101, 114, 118, 97, 108]⟩, qc ⟨#[114, 101, 112, 108, 97, 99, 101, 95, 97, 108, 108, 111, 119, 101, 100, 95, 105, 112, 115]⟩, qc ⟨#[97, 108, 108, 111, 119, 101, 100, 95, 105, 112]⟩]) (cs := [qg ⟨#[]⟩, qg ⟨#[112, 114, 105, 118, 97, 116, 101, 95, 107, 101, 121]⟩, qg ⟨#[108, 105, 115, 116, 101, 110, 95, 112, 111, 114, 116]⟩, qg ⟨#[114, 101, 112, 108, 97, 99, 101, 95, 112, 101, 101, 114, 115]⟩, qg ⟨#[112, 117, 98, 108, 105, 99, 95, 107, 101, 121]⟩, qg ⟨#[114, 101, 109, 111, 118, 101]⟩, qg ⟨#[112, 114, 101, 115, 104, 97, 114, 101, 100, 95, 107, 101, 121]⟩, qg ⟨#[101, 110, 100, 112, 111, 105, 110, 116]⟩, qg ⟨#[112, 101, 114, 115, 105, 115, 116, 101, 110, 116, 95, 107, 101, 101, 112, 97, 108, 105, 118, 101, 95, 105, 110, 116, 101, 114, 118, 97, 108]⟩, qg ⟨#[114, 101, 112, 108, 97, 99, 101, 95, 97, 108, 108, 111, 119, 101, 100, 95, 105, 112, 115]⟩, qg ⟨#[97, 108, 108, 111, 119, 101, 100, 95, 105, 112]⟩]) 1 U168 sz9 zc9 (qbe rfl) (qbe rfl) rfl qr qr qr (qbe rfl)) qP rfl ⟨rfl, trivial⟩ ?_
 refine G [2, 9, 0] ?_
 refine zaX (zcL (cs := [qg ⟨#[]⟩, qg ⟨#[112, 114, 105, 118, 97, 116, 101, 95, 107, 101, 121]⟩, qg ⟨#[108, 105, 115, 116, 101, 110, 95, 112, 111, 114, 116]⟩, qg ⟨#[114, 101, 112, 108, 97, 99, 101, 95, 112, 101, 101, 114, 115]⟩, qg ⟨#[112, 117, 98, 108, 105, 99, 95, 107, 101, 121]⟩, qg ⟨#[114, 101, 109, 111, 118, 101]⟩, qg ⟨#[112, 114, 101, 115, 104, 97, 114, 101, 100, 95, 107, 101, 121]⟩, qg ⟨#[101, 110, 100, 112, 111, 105, 110, 116]⟩, qg ⟨#[112, 101, 114, 115, 105, 115, 116, 101, 110, 116, 95, 107, 101, 101, 112, 97, 108, 105, 118, 101, 95, 105, 110, 116, 101, 114, 118, 97, 108]⟩, qg ⟨#[114, 101, 112, 108, 97, 99, 101, 95, 97, 108, 108, 111, 119, 101, 100, 95, 105, 112, 115]⟩, qg ⟨#[97, 108, 108, 111, 119, 101, 100, 95, 105, 112]⟩]) 1 rfl) ?_
 refine zaA ?_
 exact yE
def seL (s : SE) : ByteArray :=
 if isN s.k = true then itoS s.n else if s.k = 3 ∨ s.k = 5 ∨ s.k = 9 then TRUES else if s.k = 10 then ntX s.a s.b
 else if s.k = 6 ∧ s.t = ⟨#[]⟩ then zdW else s.t
theorem seL_1 (t : ByteArray) (n a b : Int) : seL ⟨1, t, n, a, b⟩ = (t) := qam
theorem seL_2 (t : ByteArray) (n a b : Int) : seL ⟨2, t, n, a, b⟩ = (itoS n) := qam
theorem seL_3 (t : ByteArray) (n a b : Int) : seL ⟨3, t, n, a, b⟩ = (TRUES) := qam
theorem seL_4 (t : ByteArray) (n a b : Int) : seL ⟨4, t, n, a, b⟩ = (t) := qam
theorem seL_5 (t : ByteArray) (n a b : Int) : seL ⟨5, t, n, a, b⟩ = (TRUES) := qam
theorem seL_6 (t : ByteArray) (n a b : Int) : seL ⟨6, t, n, a, b⟩ = (if t = ⟨#[]⟩ then zdW else t) := qam
theorem seL_7 (t : ByteArray) (n a b : Int) : seL ⟨7, t, n, a, b⟩ = (t) := qam
theorem seL_8 (t : ByteArray) (n a b : Int) : seL ⟨8, t, n, a, b⟩ = (itoS n) := qam
theorem seL_9 (t : ByteArray) (n a b : Int) : seL ⟨9, t, n, a, b⟩ = (TRUES) := qam
theorem seL_10 (t : ByteArray) (n a b : Int) : seL ⟨10, t, n, a, b⟩ = (ntX a b) := qam
theorem value1_s (t : ByteArray) (n a b : Int) (ok : SE.OK ⟨1, t, n, a, b⟩) : Fn prog 164 [.agg (SE.cells ⟨1, t, n, a, b⟩)] (qc (seL ⟨1, t, n, a, b⟩)) [] := by
 obtain ⟨hz, hn0, hn1, ha0, ha1⟩ := ok
 dsimp only at hz hn0 hn1 ha0 ha1
 rw [seL_1]
 refine jd0 ?_
 exact jcg
theorem value2_s (t : ByteArray) (n a b : Int) (ok : SE.OK ⟨2, t, n, a, b⟩) : Fn prog 164 [.agg (SE.cells ⟨2, t, n, a, b⟩)] (qc (seL ⟨2, t, n, a, b⟩)) [] := by
 obtain ⟨hz, hn0, hn1, ha0, ha1⟩ := ok
 dsimp only at hz hn0 hn1 ha0 ha1
 rw [seL_2]
 refine jd1 ?_
 have hI := zfM n hn0 hn1
 refine fnI fun w0 A => ?_
 refine G [15, 1, 9] ?_
 refine cK hI ?_
 exact jbm
theorem value3_s (t : ByteArray) (n a b : Int) (ok : SE.OK ⟨3, t, n, a, b⟩) : Fn prog 164 [.agg (SE.cells ⟨3, t, n, a, b⟩)] (qc (seL ⟨3, t, n, a, b⟩)) [] := by
 obtain ⟨hz, hn0, hn1, ha0, ha1⟩ := ok
 dsimp only at hz hn0 hn1 ha0 ha1
 rw [seL_3]
 refine jd2 ?_
 show Fn prog _ _ (qc ⟨#[116, 114, 117, 101]⟩) _
 refine fnI fun w0 A => ?_
 refine G [19] ?_
 skip
 refine G [8, 1, 10, 9, 0] ?_
 exact yE
theorem value4_s (t : ByteArray) (n a b : Int) (ok : SE.OK ⟨4, t, n, a, b⟩) : Fn prog 164 [.agg (SE.cells ⟨4, t, n, a, b⟩)] (qc (seL ⟨4, t, n, a, b⟩)) [] := by
 obtain ⟨hz, hn0, hn1, ha0, ha1⟩ := ok
 dsimp only at hz hn0 hn1 ha0 ha1
 rw [seL_4]
 refine jd3 ?_
 exact jcg
theorem value5_s (t : ByteArray) (n a b : Int) (ok : SE.OK ⟨5, t, n, a, b⟩) : Fn prog 164 [.agg (SE.cells ⟨5, t, n, a, b⟩)] (qc (seL ⟨5, t, n, a, b⟩)) [] := by
 obtain ⟨hz, hn0, hn1, ha0, ha1⟩ := ok
 dsimp only at hz hn0 hn1 ha0 ha1
 rw [seL_5]
 refine jd4 ?_
 show Fn prog _ _ (qc ⟨#[116, 114, 117, 101]⟩) _
 refine fnI fun w0 A => ?_
 refine G [19] ?_
 skip
 refine G [14, 1, 10, 9, 0] ?_
 exact yE
theorem value6_s (t : ByteArray) (n a b : Int) (ok : SE.OK ⟨6, t, n, a, b⟩) : Fn prog 164 [.agg (SE.cells ⟨6, t, n, a, b⟩)] (qc (seL ⟨6, t, n, a, b⟩)) [] := by
 obtain ⟨hz, hn0, hn1, ha0, ha1⟩ := ok
 dsimp only at hz hn0 hn1 ha0 ha1
 rw [seL_6]
 refine jd5 ?_
 have hZ := zfC
 generalize zdW = ZZ at *
 refine fnI fun w0 A => ?_
 refine G [19] ?_
 skip
 refine G [18] ?_
 skip
 refine G [13, 1, 9, 9, 0] ?_
 refine cX ?_ ?_ <;> intro h
 ·rw [if_pos (show t = ⟨#[]⟩ by simpa using h)]
  refine G [2] ?_
  refine cK hZ ?_
  exact jbm
 ·rw [if_neg (show ¬ t = ⟨#[]⟩ by simpa using h)]
  exact jbh
theorem value7_s (t : ByteArray) (n a b : Int) (ok : SE.OK ⟨7, t, n, a, b⟩) : Fn prog 164 [.agg (SE.cells ⟨7, t, n, a, b⟩)] (qc (seL ⟨7, t, n, a, b⟩)) [] := by
 obtain ⟨hz, hn0, hn1, ha0, ha1⟩ := ok
 dsimp only at hz hn0 hn1 ha0 ha1
 rw [seL_7]
 refine jd6 ?_
 exact jcg
theorem value8_s (t : ByteArray) (n a b : Int) (ok : SE.OK ⟨8, t, n, a, b⟩) : Fn prog 164 [.agg (SE.cells ⟨8, t, n, a, b⟩)] (qc (seL ⟨8, t, n, a, b⟩)) [] := by
 obtain ⟨hz, hn0, hn1, ha0, ha1⟩ := ok
 dsimp only at hz hn0 hn1 ha0 ha1
 rw [seL_8]
 refine jd7 ?_
 have hI := zfM n hn0 hn1
 refine fnI fun w0 A => ?_
 refine G [19] ?_
 skip
 refine G [1, 1, 7] ?_
 refine cK hI ?_
 exact jbm
theorem value9_s (t : ByteArray) (n a b : Int) (ok : SE.OK ⟨9, t, n, a, b⟩) : Fn prog 164 [.agg (SE.cells ⟨9, t, n, a, b⟩)] (qc (seL ⟨9, t, n, a, b⟩)) [] := by
 obtain ⟨hz, hn0, hn1, ha0, ha1⟩ := ok
 dsimp only at hz hn0 hn1 ha0 ha1
 rw [seL_9]
 refine jd8 ?_
 show Fn prog _ _ (qc ⟨#[116, 114, 117, 101]⟩) _
 refine fnI fun w0 A => ?_
 refine G [19] ?_
 skip
 refine G [18] ?_
 skip
 refine G [1, 1, 8, 9, 0] ?_
 exact yE
theorem value10_s (t : ByteArray) (n a b : Int) (ok : SE.OK ⟨10, t, n, a, b⟩) : Fn prog 164 [.agg (SE.cells ⟨10, t, n, a, b⟩)] (qc (seL ⟨10, t, n, a, b⟩)) [] := by
 obtain ⟨hz, hn0, hn1, ha0, ha1⟩ := ok
 dsimp only at hz hn0 hn1 ha0 ha1
 rw [seL_10]
 refine jdZ ?_
 have hT := ntText_s a b ha0 ha1
 unfold ntR at hT
 change Fn prog _ [.agg [qe a, qd b]] _ _ at hT
 generalize ntX a b = X at *
 generalize zan a b = fe at *
 refine fnI fun w0 A => ?_
 refine G [19] ?_
 skip
 refine G [18] ?_
 skip
 refine G [7, 1, 7] ?_
 refine cV hT ?_
 refine G [12, 9, 0] ?_
 exact yE
theorem refLine1_s (t : ByteArray) (n a b : Int) (ok : SE.OK ⟨1, t, n, a, b⟩) (hC : Fn prog 86 [.agg (SE.cells ⟨1, t, n, a, b⟩)] (qd 0) []) : Fn prog 140 [.agg (SE.cells ⟨1, t, n, a, b⟩)] (.tup [.agg [qc W1, qc (seL ⟨1, t, n, a, b⟩)], qd 0]) [] := by
 obtain ⟨hz, hn0, hn1, ha0, ha1⟩ := ok
 dsimp only at hz hn0 hn1 ha0 ha1
 rw [seL_1]
 have hW := zdg
 have hWl : zbd.length = 11 := rfl
 have hWa : (zbd.drop 1)[0]? = some (qg W1) := rfl
 generalize zbd = L at *
 generalize W1 = w at *
 refine jd0 ?_
 change Fn prog _ [.agg [qd 1, qc t, qd n, qe a, qd b]] _ _ at hC
 exact jb5
theorem refLine2_s (t : ByteArray) (n a b : Int) (ok : SE.OK ⟨2, t, n, a, b⟩) (hC : Fn prog 86 [.agg (SE.cells ⟨2, t, n, a, b⟩)] (qd 0) []) : Fn prog 140 [.agg (SE.cells ⟨2, t, n, a, b⟩)] (.tup [.agg [qc W2, qc (seL ⟨2, t, n, a, b⟩)], qd 0]) [] := by
 obtain ⟨hz, hn0, hn1, ha0, ha1⟩ := ok
 dsimp only at hz hn0 hn1 ha0 ha1
 rw [seL_2]
 have hW := zdg
 have hWl : zbd.length = 11 := rfl
 have hWa : (zbd.drop 2)[0]? = some (qg W2) := rfl
 generalize zbd = L at *
 generalize W2 = w at *
 refine jd1 ?_
 change Fn prog _ [.agg [qd 2, qc t, qd n, qe a, qd b]] _ _ at hC
 have hI := zfM n hn0 hn1
 refine fnI fun w0 A => ?_
 refine jeT ?_
 refine G [5, 1, 19, 1, 5] ?_
 skip
 refine G [3] ?_
 refine cK hI ?_
 refine G [17] ?_
 exact jba
theorem refLine3_s (t : ByteArray) (n a b : Int) (ok : SE.OK ⟨3, t, n, a, b⟩) (hC : Fn prog 86 [.agg (SE.cells ⟨3, t, n, a, b⟩)] (qd 0) []) : Fn prog 140 [.agg (SE.cells ⟨3, t, n, a, b⟩)] (.tup [.agg [qc W3, qc (seL ⟨3, t, n, a, b⟩)], qd 0]) [] := by
 obtain ⟨hz, hn0, hn1, ha0, ha1⟩ := ok
 dsimp only at hz hn0 hn1 ha0 ha1
 rw [seL_3]
 have hW := zdg
 have hWl : zbd.length = 11 := rfl
 have hWa : (zbd.drop 3)[0]? = some (qg W3) := rfl
 generalize zbd = L at *
 generalize W3 = w at *
 refine jd2 ?_
 change Fn prog _ [.agg [qd 3, qc t, qd n, qe a, qd b]] _ _ at hC
 have hTr : TRUES = ⟨#[116, 114, 117, 101]⟩ := rfl
 rw [hTr]
 refine fnI fun w0 A => ?_
 refine jeT ?_
 refine G [5, 1, 23] ?_
 skip
 refine G [8, 1, 5] ?_
 skip
 refine G [18] ?_
 exact jba
theorem refLine4_s (t : ByteArray) (n a b : Int) (ok : SE.OK ⟨4, t, n, a, b⟩) (hC : Fn prog 86 [.agg (SE.cells ⟨4, t, n, a, b⟩)] (qd 0) []) : Fn prog 140 [.agg (SE.cells ⟨4, t, n, a, b⟩)] (.tup [.agg [qc W4, qc (seL ⟨4, t, n, a, b⟩)], qd 0]) [] := by
 obtain ⟨hz, hn0, hn1, ha0, ha1⟩ := ok
 dsimp only at hz hn0 hn1 ha0 ha1
 rw [seL_4]
 have hW := zdg
 have hWl : zbd.length = 11 := rfl
 have hWa : (zbd.drop 4)[0]? = some (qg W4) := rfl
 generalize zbd = L at *
 generalize W4 = w at *
 refine jd3 ?_
 change Fn prog _ [.agg [qd 4, qc t, qd n, qe a, qd b]] _ _ at hC
 exact jb5
theorem refLine5_s (t : ByteArray) (n a b : Int) (ok : SE.OK ⟨5, t, n, a, b⟩) (hC : Fn prog 86 [.agg (SE.cells ⟨5, t, n, a, b⟩)] (qd 0) []) : Fn prog 140 [.agg (SE.cells ⟨5, t, n, a, b⟩)] (.tup [.agg [qc W5, qc (seL ⟨5, t, n, a, b⟩)], qd 0]) [] := by
 obtain ⟨hz, hn0, hn1, ha0, ha1⟩ := ok
 dsimp only at hz hn0 hn1 ha0 ha1
 rw [seL_5]
 have hW := zdg
 have hWl : zbd.length = 11 := rfl
 have hWa : (zbd.drop 5)[0]? = some (qg W5) := rfl
 generalize zbd = L at *
 generalize W5 = w at *
 refine jd4 ?_
 change Fn prog _ [.agg [qd 5, qc t, qd n, qe a, qd b]] _ _ at hC
 have hTr : TRUES = ⟨#[116, 114, 117, 101]⟩ := rfl
 rw [hTr]
 refine fnI fun w0 A => ?_
 refine jeT ?_
 refine G [5, 1, 23] ?_
 skip
 refine G [14, 1, 5] ?_
 skip
 refine G [18] ?_
 exact jba
theorem refLine6_s (t : ByteArray) (n a b : Int) (ok : SE.OK ⟨6, t, n, a, b⟩) (hC : Fn prog 86 [.agg (SE.cells ⟨6, t, n, a, b⟩)] (qd 0) []) : Fn prog 140 [.agg (SE.cells ⟨6, t, n, a, b⟩)] (.tup [.agg [qc W6, qc (seL ⟨6, t, n, a, b⟩)], qd 0]) [] := by
 obtain ⟨hz, hn0, hn1, ha0, ha1⟩ := ok
 dsimp only at hz hn0 hn1 ha0 ha1
 rw [seL_6]
 have hW := zdg
 have hWl : zbd.length = 11 := rfl
 have hWa : (zbd.drop 6)[0]? = some (qg W6) := rfl
 generalize zbd = L at *
 generalize W6 = w at *
 refine jd5 ?_
 change Fn prog _ [.agg [qd 6, qc t, qd n, qe a, qd b]] _ _ at hC
 have hZ := zge
 generalize zdW = ZZ at *
 refine fnI fun w0 A => ?_
 refine jeT ?_
 refine G [5, 1, 23] ?_
 skip
 refine G [18] ?_
 skip
 refine G [11] ?_
 by_cases h1 : t = ⟨#[]⟩
 ·rw [if_pos h1]
  refine G [6, 1, 2, 4, 3] ?_
  skip
  refine tx (cK hZ ?_)
  refine G [4] ?_
  exact jba
 rw [if_neg h1]
 refine G [6, 1, 2, 3, 6] ?_
 refine cK hW ?_
 refine G [3] ?_
 refine jfb (zaG U9 rfl hWa) ?_
 refine jdI ?_
 exact yE
theorem refLine7_s (t : ByteArray) (n a b : Int) (ok : SE.OK ⟨7, t, n, a, b⟩) (hC : Fn prog 86 [.agg (SE.cells ⟨7, t, n, a, b⟩)] (qd 0) []) : Fn prog 140 [.agg (SE.cells ⟨7, t, n, a, b⟩)] (.tup [.agg [qc W7, qc (seL ⟨7, t, n, a, b⟩)], qd 0]) [] := by
 obtain ⟨hz, hn0, hn1, ha0, ha1⟩ := ok
 dsimp only at hz hn0 hn1 ha0 ha1
 rw [seL_7]
 have hW := zdg
 have hWl : zbd.length = 11 := rfl
 have hWa : (zbd.drop 7)[0]? = some (qg W7) := rfl
 generalize zbd = L at *
 generalize W7 = w at *
 refine jd6 ?_
 change Fn prog _ [.agg [qd 7, qc t, qd n, qe a, qd b]] _ _ at hC
 exact jb5
theorem refLine8_s (t : ByteArray) (n a b : Int) (ok : SE.OK ⟨8, t, n, a, b⟩) (hC : Fn prog 86 [.agg (SE.cells ⟨8, t, n, a, b⟩)] (qd 0) []) : Fn prog 140 [.agg (SE.cells ⟨8, t, n, a, b⟩)] (.tup [.agg [qc W8, qc (seL ⟨8, t, n, a, b⟩)], qd 0]) [] := by
 obtain ⟨hz, hn0, hn1, ha0, ha1⟩ := ok
 dsimp only at hz hn0 hn1 ha0 ha1
 rw [seL_8]
 have hW := zdg
 have hWl : zbd.length = 11 := rfl
 have hWa : (zbd.drop 8)[0]? = some (qg W8) := rfl
 generalize zbd = L at *
 generalize W8 = w at *
 refine jd7 ?_
 change Fn prog _ [.agg [qd 8, qc t, qd n, qe a, qd b]] _ _ at hC
 have hI := zfM n hn0 hn1
 refine fnI fun w0 A => ?_
 refine jeT ?_
 refine G [5, 1, 23] ?_
 skip
 refine G [1, 1, 3] ?_
 skip
 refine G [3] ?_
 refine cK hI ?_
 refine G [17] ?_
 exact jba
theorem refLine9_s (t : ByteArray) (n a b : Int) (ok : SE.OK ⟨9, t, n, a, b⟩) (hC : Fn prog 86 [.agg (SE.cells ⟨9, t, n, a, b⟩)] (qd 0) []) : Fn prog 140 [.agg (SE.cells ⟨9, t, n, a, b⟩)] (.tup [.agg [qc W9, qc (seL ⟨9, t, n, a, b⟩)], qd 0]) [] := by
 obtain ⟨hz, hn0, hn1, ha0, ha1⟩ := ok
 dsimp only at hz hn0 hn1 ha0 ha1
 rw [seL_9]
 have hW := zdg
 have hWl : zbd.length = 11 := rfl
 have hWa : (zbd.drop 9)[0]? = some (qg W9) := rfl
 generalize zbd = L at *
 generalize W9 = w at *
 refine jd8 ?_
 change Fn prog _ [.agg [qd 9, qc t, qd n, qe a, qd b]] _ _ at hC
 have hTr : TRUES = ⟨#[116, 114, 117, 101]⟩ := rfl
 rw [hTr]
 refine fnI fun w0 A => ?_
 refine jeT ?_
 refine G [5, 1, 23] ?_
 skip
 refine G [18] ?_
 skip
 refine G [1, 1, 3] ?_
 skip
 refine G [18] ?_
 exact jba
theorem refLine10_s (t : ByteArray) (n a b : Int) (ok : SE.OK ⟨10, t, n, a, b⟩) (hC : Fn prog 86 [.agg (SE.cells ⟨10, t, n, a, b⟩)] (qd 0) []) : Fn prog 140 [.agg (SE.cells ⟨10, t, n, a, b⟩)] (.tup [.agg [qc W10, qc (seL ⟨10, t, n, a, b⟩)], qd 0]) [] := by
 obtain ⟨hz, hn0, hn1, ha0, ha1⟩ := ok
 dsimp only at hz hn0 hn1 ha0 ha1
 rw [seL_10]
 have hW := zdg
 have hWl : zbd.length = 11 := rfl
 have hWa : (zbd.drop 10)[0]? = some (qg W10) := rfl
 generalize zbd = L at *
 generalize W10 = w at *
 refine jdZ ?_
 change Fn prog _ [.agg [qd 10, qc t, qd n, qe a, qd b]] _ _ at hC
 have hT := refNtText_s a b ha0 ha1
 unfold ntR at hT
 change Fn prog _ [.agg [qe a, qd b]] _ _ at hT
 generalize ntX a b = X at *
 generalize zan a b = fe at *
 refine fnI fun w0 A => ?_
 refine jeT ?_
 refine G [5, 1, 23] ?_
 skip
 refine G [18] ?_
 skip
 refine G [7, 1, 3] ?_
 skip
 refine G [3] ?_
 refine cV hT ?_
 refine G [20] ?_
 exact jba
theorem value_s (s : SE) (ok : s.OK) (h0 : 1 ≤ s.k) (h1 : s.k ≤ 10) : Fn prog 164 [.agg s.cells] (qc (seL s)) [] := by
 obtain ⟨k, t, n, a, b⟩ := s
 dsimp only at h0 h1
 have : k = 1 ∨ k = 2 ∨ k = 3 ∨ k = 4 ∨ k = 5 ∨ k = 6 ∨ k = 7 ∨ k = 8 ∨ k = 9 ∨ k = 10 := qp
 rcases this with rfl | rfl | rfl | rfl | rfl | rfl | rfl | rfl | rfl | rfl
 ·exact value1_s t n a b ok
 ·exact value2_s t n a b ok
 ·exact value3_s t n a b ok
 ·exact value4_s t n a b ok
 ·exact value5_s t n a b ok
 ·exact value6_s t n a b ok
 ·exact value7_s t n a b ok
 ·exact value8_s t n a b ok
 ·exact value9_s t n a b ok
 ·exact value10_s t n a b ok
def seR (s : SE) : AV := if seE s = 0 then .tup [.agg [qc (word s.k), qc (seL s)], qd 0] else .tup [.agg [qc ⟨#[]⟩, qc ⟨#[]⟩], qd (seE s)]
theorem seR_bad {s : SE} {e : Int} (h : seE s = e) (he : e ≠ 0) : seR s = .tup [.agg [qc ⟨#[]⟩, qc ⟨#[]⟩], qd e] := by
 subst h
 exact if_neg he
theorem seE_kind {s : SE} (h : seE s = 0) : 1 ≤ s.k ∧ s.k ≤ 10 := by
 by_cases hk : s.k < 1 ∨ 10 < s.k
 ·rw [show seE s = 2 from if_pos hk] at h; cases h
 ·omega
theorem refLineG_s (s : SE) (ok : s.OK) (hE : seE s = 0) : Fn prog 140 [.agg s.cells] (seR s) [] := by
 have hC := zaT s ok
 rw [hE] at hC
 rw [show seR s = _ from if_pos hE]
 obtain ⟨h0, h1⟩ := seE_kind hE
 clear hE
 obtain ⟨k, t, n, a, b⟩ := s
 dsimp only at h0 h1
 have : k = 1 ∨ k = 2 ∨ k = 3 ∨ k = 4 ∨ k = 5 ∨ k = 6 ∨ k = 7 ∨ k = 8 ∨ k = 9 ∨ k = 10 := qp
 rcases this with rfl | rfl | rfl | rfl | rfl | rfl | rfl | rfl | rfl | rfl
 ·exact refLine1_s t n a b ok hC
 ·exact refLine2_s t n a b ok hC
 ·exact refLine3_s t n a b ok hC
 ·exact refLine4_s t n a b ok hC
 ·exact refLine5_s t n a b ok hC
 ·exact refLine6_s t n a b ok hC
 ·exact refLine7_s t n a b ok hC
 ·exact refLine8_s t n a b ok hC
 ·exact refLine9_s t n a b ok hC
 ·exact refLine10_s t n a b ok hC
theorem refLine_s (s : SE) (ok : s.OK) : Fn prog 140 [.agg s.cells] (seR s) [] := by
 by_cases hE : seE s = 0
 ·exact refLineG_s s ok hE
 have hC := zaT s ok
 rw [seR_bad rfl hE]
 generalize seE s = e at *
 obtain ⟨k, t, n, a, b⟩ := s
 change Fn prog _ [.agg [qd k, qc t, qd n, qe a, qd b]] _ _ at hC
 refine jd9 ?_
 refine fnI fun w0 A => ?_
 refine jeT ?_
 refine jdv ?_
 refine cX ?_ ?_ <;> intro h
 ·exact jbh
 ·exact absurd qz hE
theorem zgB (s : SE) (ok : s.OK) : Fn prog 127 [.agg s.cells] (seR s) [] := by
 have hC := zeB s ok
 by_cases hE : seE s = 0
 ·rw [show seR s = _ from if_pos hE]
  obtain ⟨h0, h1⟩ := seE_kind hE
  have hV := value_s s ok h0 h1
  have hW := words_s
  have hWa := word_at (k := s.k) qp qp
  rw [hE] at hC
  generalize seL s = L at *
  obtain ⟨k, t, n, a, b⟩ := s
  dsimp only at h0 h1 hWa ⊢
  generalize word k = w at *
  change Fn prog _ [.agg [qd k, qc t, qd n, qe a, qd b]] _ _ at hC
  change Fn prog _ [.agg [qd k, qc t, qd n, qe a, qd b]] _ _ at hV
  refine jd9 ?_
  refine fnI fun w0 A => ?_
  refine jeT ?_
  refine G [5, 1, 5] ?_
  refine cK hW ?_
  refine G [2] ?_
  refine zaa (zc0 U174 sz9 U9 rfl qp qp hWa) rfl rfl ?_
  refine lN U107 rfl zdJ rfl rfl ⟨rfl, trivial⟩ ?_
  refine cK hV ?_
  exact ja4
 rw [seR_bad rfl hE]
 generalize seE s = e at *
 obtain ⟨k, t, n, a, b⟩ := s
 change Fn prog _ [.agg [qd k, qc t, qd n, qe a, qd b]] _ _ at hC
 refine jd9 ?_
 refine fnI fun w0 A => ?_
 refine jeT ?_
 refine jdv ?_
 refine cX ?_ ?_ <;> intro h
 ·exact jbh
 ·exact absurd qz hE
theorem seE_V {s : SE} (h : seE s = 0) : seV s = 0 := by
 unfold seE at h
 split at h
 ·cases h
 ·split at h
  ·cases h
  ·exact h
def kdF (key : ByteArray) : Nat → Int
 | 0 => 0
 | n + 1 => if 0 < n ∧ word n = key then (n : Int) else kdF key n
theorem kdF_in (key : ByteArray) : ∀ n : Nat, n ≤ 11 → 0 ≤ kdF key n ∧ kdF key n ≤ 10
 | 0, _ => by simp [kdF]
 | n + 1, h => by
  unfold kdF
  split
  ·omega
  ·exact kdF_in key n qp
theorem kdF_none (key : ByteArray) : ∀ n : Nat, (∀ j : Nat, j < n → 0 < j → word j ≠ key) → kdF key n = 0
 | 0, _ => rfl
 | n + 1, h => by
  unfold kdF
  rw [if_neg (fun ⟨h1, h2⟩ => h n (by omega) h1 h2)]
  exact kdF_none key n fun j hj => h j qp
theorem word_inj : ∀ i : _root_.Fin 11, ∀ j : _root_.Fin 11, word i.val = word j.val → i = j := qap
theorem kdF_some {key : ByteArray} {i : Nat} (h0 : 0 < i) (h1 : i < 11) (hw : word i = key) : ∀ n : Nat, i < n → n ≤ 11 → kdF key n = i
 | 0, h, _ => by omega
 | n + 1, h, hn => by
  unfold kdF
  by_cases e : i = n
  ·subst e
   rw [if_pos ⟨h0, hw⟩]
  ·rw [if_neg (fun ⟨h2, h3⟩ => e (by
    have := word_inj ⟨i, h1⟩ ⟨n, qp⟩ (by rw [hw]; exact h3.symm)
    exact congrArg _root_.Fin.val this))]
   exact kdF_some h0 h1 hw n qp qp
def kd (key : ByteArray) : Int := kdF key 11
def npX (v : ByteArray) : Int := if npOk v then npA v else 0
def npY (v : ByteArray) : Int := if npOk v then npN v else 0
theorem npR_eq (v : ByteArray) : ∃ e : Int, npR v = .tup [.agg [qe (npX v), qd (npY v)], qd e] := by
 unfold npR npX npY
 split <;> exact ⟨_, rfl⟩
theorem npX_in (v : ByteArray) : 0 ≤ npX v ∧ npX v < 4294967296 := by
 unfold npX
 split
 ·exact adA_in _
 ·omega
def bc (k : Int) (v : ByteArray) : SE :=
 if k = 2 ∨ k = 8 then ⟨k, ⟨#[]⟩, numV v 65535, 0, 0⟩ else if k = 3 ∨ k = 5 ∨ k = 9 then ⟨k, ⟨#[]⟩, 0, 0, 0⟩
 else if k = 10 then ⟨k, ⟨#[]⟩, 0, npX v, npY v⟩ else if k = 6 ∧ v = zdW then ⟨k, ⟨#[]⟩, 0, 0, 0⟩ else ⟨k, v, 0, 0, 0⟩
theorem numV_in (v : ByteArray) : 0 ≤ numV v 65535 ∧ numV v 65535 ≤ 65535 := by
 unfold numV
 split
 ·rename_i h
  have := (zeI h).2
  omega
 ·omega
theorem bc_ok {k : Int} {v : ByteArray} (hv : v.size < 4294967281) : (bc k v).OK := by
 have h1 := numV_in v
 have h2 := npX_in v
 unfold bc
 split
 ·exact jdn
 ·split
  ·exact jcG
  ·split
   ·exact ⟨by show (0 : Nat) < _; omega, qC, qC, h2.1, h2.2⟩
   ·split
    ·exact jcG
    ·exact ⟨hv, qC, qC, qC, qC⟩
def isL (s : SE) (key v : ByteArray) : Prop := seE s = 0 ∧ word s.k = key ∧ seL s = v
noncomputable instance isL_dec (s : SE) (key v : ByteArray) : Decidable (isL s key v) := by unfold isL; infer_instance
def SE0 : SE := ⟨0, ⟨#[]⟩, 0, 0, 0⟩
def rdO (s : SE) (e : Int) : AV := .tup [.agg s.cells, qd e]
noncomputable def rdR (key v : ByteArray) : AV := if kd key = 0 then rdO SE0 2 else if isL (bc (kd key) v) key v then rdO (bc (kd key) v) 0 else rdO SE0 3
theorem zeV (a b c d : ByteArray) : eqL [.string a, .string b] [.string c, .string d] = (decide (a = c) && decide (b = d)) := by
 rw [qbX, zaN]
 simp
theorem zgr {α : Type} {p q : Prop} [Decidable p] [Decidable q] {a b : α} (h : p ↔ q) : (if p then a else b) = if q then a else b := by
 by_cases hp : p
 ·rw [if_pos hp, if_pos (h.1 hp)]
 ·rw [if_neg hp, if_neg (fun x => hp (h.2 x))]
theorem ze2 (s : SE) : ∃ w v : ByteArray, seR s = .tup [.agg [qc w, qc v], qd (seE s)] := by
 unfold seR
 by_cases h : seE s = 0
 ·rw [if_pos h, h]; exact ⟨_, _, rfl⟩
 ·rw [if_neg h]; exact ⟨_, _, rfl⟩
theorem zfg (s : SE) (key v : ByteArray) {w u : ByteArray} (h : seR s = .tup [.agg [qc w, qc u], qd (seE s)]) : (isL s key v → seE s = 0 ∧ w = key ∧ u = v) ∧ (seE s = 0 ∧ w = key ∧ u = v → isL s key v) := by
 have key1 : seE s = 0 → w = word s.k ∧ u = seL s := by
  intro h0
  unfold seR at h
  rw [if_pos h0, h0] at h
  simp only [AV.tup.injEq, List.cons.injEq, AV.agg.injEq, AV.p.injEq, PV.v.injEq, Value.string.injEq, and_true] at h
  exact ⟨h.1.symm, h.2.symm⟩
 refine ⟨fun ⟨h0, h1, h2⟩ => ⟨h0, ?_, ?_⟩, fun ⟨h0, h1, h2⟩ => ⟨h0, ?_, ?_⟩⟩
 ·rw [(key1 h0).1, h1]
 ·rw [(key1 h0).2, h2]
 ·rw [← (key1 h0).1, h1]
 ·rw [← (key1 h0).2, h2]
theorem read_s (key v : ByteArray) (hv : v.size < 4294967281) : Fn prog 92 [.agg [qc key, qc v]] (rdR key v) [] := by
 obtain ⟨R, hR⟩ : ∃ R, rdR key v = R := ⟨_, rfl⟩
 rw [hR]
 unfold rdR at hR
 have hW := words_s
 have hwat := fun (i : Nat) (h : i < 11) => word_at (k := (i : Int)) qp qp
 have hks : ∀ n, kdF key (n + 1) = if 0 < n ∧ word n = key then (n : Int) else kdF key n := fun n => rfl
 have hk0 : kdF key 0 = 0 := rfl
 have hkin := kdF_in key 11 qp
 unfold kd at hR
 refine fnI fun w0 A => ?_
 refine G [13] ?_
 refine cK hW ?_
 refine G [3] ?_
 refine zac (fun m st => ∃ i : Nat, m + i = 11 ∧ st = St.of [(1, .ref 1 0), (2, .ref 2 0), (4, .ref 4 0), (9, .agg WORDSA), (10, qd i)] [(1, .box 139 [qc key, qc v]), (2, .box 107 [qd 0, qc ⟨#[]⟩, qd 0, qe 0, qd 0]), (4, .box 107 [qd (kdF key i), qc ⟨#[]⟩, qd 0, qe 0, qd 0])]) 11 ?_ ?_
 ·refine jec ?_ ?_
  ·exact jap
  ·rw [hk0]
   exact jaR
 rintro m st ⟨i, hi, rfl⟩
 refine G [5] ?_
 refine cX ?_ ?_ <;> intro h
 ·have hlt : i < 11 := qu
  clear h
  have hat := hwat i hlt
  have hnx := hks i
  have hkv : ∀ x : Int, kdF key (i + 1) = x → ∀ st, Re st (St.of [(1, .ref 1 0), (2, .ref 2 0), (4, .ref 4 0), (9, .agg WORDSA), (10, qd ((i + 1 : Nat) : Int))] [(1, .box 139 [qc key, qc v]), (2, .box 107 [qd 0, qc ⟨#[]⟩, qd 0, qe 0, qd 0]), (4, .box 107 [qd x, qc ⟨#[]⟩, qd 0, qe 0, qd 0])]) →
   ∃ n', n' < m ∧ ∃ st1, Re st st1 ∧ ∃ i : Nat, n' + i = 11 ∧ st1 = St.of [(1, .ref 1 0), (2, .ref 2 0), (4, .ref 4 0), (9, .agg WORDSA), (10, qd i)] [(1, .box 139 [qc key, qc v]), (2, .box 107 [qd 0, qc ⟨#[]⟩, qd 0, qe 0, qd 0]), (4, .box 107 [qd (kdF key i), qc ⟨#[]⟩, qd 0, qe 0, qd 0])] := fun x hx st hre => ⟨m - 1, qp, _, hre, i + 1, qp, by rw [hx]⟩
  generalize kdF key i = k0 at *
  generalize word i = w at *
  by_cases h0 : 0 < i
  ·by_cases hw : w = key
   ·rw [if_pos ⟨h0, hw⟩] at hnx
    refine G [6] ?_
    refine zaa (zc0 U174 sz9 U9 rfl qp qp hat) rfl rfl ?_
    refine G [6, 4, 4, 4, 3] ?_
    skip
    refine G [9, 9, 0] ?_
    exact jc2
   ·rw [if_neg (fun hh => hw hh.2)] at hnx
    refine G [6] ?_
    refine zaa (zc0 U174 sz9 U9 rfl qp qp hat) rfl rfl ?_
    refine G [6, 4, 4, 3, 8, 9, 0] ?_
    exact jc2
  ·rw [if_neg (fun hh => h0 hh.1)] at hnx
   refine G [6] ?_
   refine zaa (zc0 U174 sz9 U9 rfl qp qp hat) rfl rfl ?_
   refine G [6, 3, 13, 9, 0] ?_
   exact jc2
 have hge : i = 11 := qu
 clear h
 subst hge
 clear hwat hks hk0 hW
 generalize kdF key 11 = k at *
 by_cases k0 : k = 0
 ·rw [if_pos k0] at hR
  subst hR
  subst k0
  refine G [10, 1, 10, 9, 0] ?_
  exact yE
 rw [if_neg k0] at hR
 refine G [10, 3, 3] ?_
 by_cases h28 : k = 2 ∨ k = 8
 ·have hM := mostN_s k h28
  have hN := ziU v 65535 qp
  unfold numR at hN
  have hbc : bc k v = ⟨k, ⟨#[]⟩, numV v 65535, 0, 0⟩ := if_pos h28
  have hL := zgB ⟨k, ⟨#[]⟩, numV v 65535, 0, 0⟩ qal
  rw [hbc] at hR
  obtain ⟨w, u, hsR⟩ := ze2 ⟨k, ⟨#[]⟩, numV v 65535, 0, 0⟩
  rw [hsR] at hL
  obtain ⟨hi1, hi2⟩ := zfg ⟨k, ⟨#[]⟩, numV v 65535, 0, 0⟩ key v hsR
  rw [show (if isL ⟨k, ⟨#[]⟩, numV v 65535, 0, 0⟩ key v then rdO ⟨k, ⟨#[]⟩, numV v 65535, 0, 0⟩ 0 else rdO SE0 3) = if seE ⟨k, ⟨#[]⟩, numV v 65535, 0, 0⟩ = 0 ∧ w = key ∧ u = v then rdO ⟨k, ⟨#[]⟩, numV v 65535, 0, 0⟩ 0 else rdO SE0 3 from zgr ⟨hi1, hi2⟩] at hR
  clear hsR hi1 hi2
  generalize seE ⟨k, ⟨#[]⟩, numV v 65535, 0, 0⟩ = e at *
  change Fn prog _ [.agg [qd k, qc ⟨#[]⟩, qd (numV v 65535), qe 0, qd 0]] _ _ at hL
  change (if _ then .tup [.agg [qd k, qc ⟨#[]⟩, qd (numV v 65535), qe 0, qd 0], _] else .tup [.agg [qd 0, qc ⟨#[]⟩, qd 0, qe 0, qd 0], _]) = R at hR
  generalize numV v 65535 = nv at *
  generalize numE v 65535 = ne at *
  by_cases h2 : k = 2
  ·refine G [3, 4, 5] ?_
   skip
   refine G [5] ?_
   refine cK hM ?_
   refine cK hN ?_
   refine G [10] ?_
   exact jax
  refine G [3, 3, 3] ?_
  skip
  refine G [1, 4, 3] ?_
  skip
  refine G [5] ?_
  refine cK hM ?_
  refine cK hN ?_
  refine G [10] ?_
  refine cK hL ?_
  refine G [7] ?_
  by_cases he : e = 0
  ·exact jau
  ·exact jbq
 refine G [3, 3, 3] ?_
 skip
 refine G [1, 3, 3] ?_
 by_cases h359 : k = 3 ∨ k = 5 ∨ k = 9
 ·have hbc : bc k v = ⟨k, ⟨#[]⟩, 0, 0, 0⟩ := by unfold bc; rw [if_neg h28, if_pos h359]
  have hL := zgB ⟨k, ⟨#[]⟩, 0, 0, 0⟩ qal
  rw [hbc] at hR
  obtain ⟨w, u, hsR⟩ := ze2 ⟨k, ⟨#[]⟩, 0, 0, 0⟩
  rw [hsR] at hL
  obtain ⟨hi1, hi2⟩ := zfg ⟨k, ⟨#[]⟩, 0, 0, 0⟩ key v hsR
  rw [show (if isL ⟨k, ⟨#[]⟩, 0, 0, 0⟩ key v then rdO ⟨k, ⟨#[]⟩, 0, 0, 0⟩ 0 else rdO SE0 3) = if seE ⟨k, ⟨#[]⟩, 0, 0, 0⟩ = 0 ∧ w = key ∧ u = v then rdO ⟨k, ⟨#[]⟩, 0, 0, 0⟩ 0 else rdO SE0 3 from zgr ⟨hi1, hi2⟩] at hR
  clear hsR hi1 hi2
  generalize seE ⟨k, ⟨#[]⟩, 0, 0, 0⟩ = e at *
  change Fn prog _ [.agg [qd k, qc ⟨#[]⟩, qd 0, qe 0, qd 0]] _ _ at hL
  change (if _ then .tup [.agg [qd k, qc ⟨#[]⟩, qd 0, qe 0, qd 0], _] else .tup [.agg [qd 0, qc ⟨#[]⟩, qd 0, qe 0, qd 0], _]) = R at hR
  by_cases h3 : k = 3
  ·refine G [3, 4, 10] ?_
   exact jax
  refine G [3, 3, 3] ?_
  by_cases h5 : k = 5
  ·refine G [2, 4, 10] ?_
   exact jax
  refine G [2, 3, 3] ?_
  skip
  refine G [1, 4, 8] ?_
  refine cK hL ?_
  refine G [7] ?_
  by_cases he : e = 0
  ·exact jau
  ·exact jbq
 refine G [3, 3, 5, 3, 3] ?_
 skip
 refine G [1, 3, 3] ?_
 by_cases h10 : k = 10
 ·have hP := ntParse_s v hv
  obtain ⟨pe, hnp⟩ := npR_eq v
  rw [hnp] at hP
  clear hnp
  have hbc : bc k v = ⟨k, ⟨#[]⟩, 0, npX v, npY v⟩ := by unfold bc; rw [if_neg h28, if_neg h359, if_pos h10]
  have hL := zgB ⟨k, ⟨#[]⟩, 0, npX v, npY v⟩ qal
  rw [hbc] at hR
  obtain ⟨w, u, hsR⟩ := ze2 ⟨k, ⟨#[]⟩, 0, npX v, npY v⟩
  rw [hsR] at hL
  obtain ⟨hi1, hi2⟩ := zfg ⟨k, ⟨#[]⟩, 0, npX v, npY v⟩ key v hsR
  rw [show (if isL ⟨k, ⟨#[]⟩, 0, npX v, npY v⟩ key v then rdO ⟨k, ⟨#[]⟩, 0, npX v, npY v⟩ 0 else rdO SE0 3) = if seE ⟨k, ⟨#[]⟩, 0, npX v, npY v⟩ = 0 ∧ w = key ∧ u = v then rdO ⟨k, ⟨#[]⟩, 0, npX v, npY v⟩ 0 else rdO SE0 3 from zgr ⟨hi1, hi2⟩] at hR
  clear hsR hi1 hi2
  generalize seE ⟨k, ⟨#[]⟩, 0, npX v, npY v⟩ = e at *
  change Fn prog _ [.agg [qd k, qc ⟨#[]⟩, qd 0, qe (npX v), qd (npY v)]] _ _ at hL
  change (if _ then .tup [.agg [qd k, qc ⟨#[]⟩, qd 0, qe (npX v), qd (npY v)], _] else .tup [.agg [qd 0, qc ⟨#[]⟩, qd 0, qe 0, qd 0], _]) = R at hR
  generalize npX v = xa at *
  generalize npY v = xb at *
  refine G [2, 4, 3] ?_
  skip
  refine G [3] ?_
  refine cK hP ?_
  refine G [10] ?_
  exact jax
 refine G [2, 3, 10] ?_
 have hZ := zfC
 by_cases h6 : k = 6
 ·by_cases hz : v = zdW
  ·have hbc : bc k v = ⟨k, ⟨#[]⟩, 0, 0, 0⟩ := by unfold bc; rw [if_neg h28, if_neg h359, if_neg h10, if_pos ⟨h6, hz⟩]
   have hL := zgB ⟨k, ⟨#[]⟩, 0, 0, 0⟩ qal
   rw [hbc] at hR
   obtain ⟨w, u, hsR⟩ := ze2 ⟨k, ⟨#[]⟩, 0, 0, 0⟩
   rw [hsR] at hL
   obtain ⟨hi1, hi2⟩ := zfg ⟨k, ⟨#[]⟩, 0, 0, 0⟩ key v hsR
   rw [show (if isL ⟨k, ⟨#[]⟩, 0, 0, 0⟩ key v then rdO ⟨k, ⟨#[]⟩, 0, 0, 0⟩ 0 else rdO SE0 3) = if seE ⟨k, ⟨#[]⟩, 0, 0, 0⟩ = 0 ∧ w = key ∧ u = v then rdO ⟨k, ⟨#[]⟩, 0, 0, 0⟩ 0 else rdO SE0 3 from zgr ⟨hi1, hi2⟩] at hR
   clear hsR hi1 hi2
   generalize seE ⟨k, ⟨#[]⟩, 0, 0, 0⟩ = e at *
   change Fn prog _ [.agg [qd k, qc ⟨#[]⟩, qd 0, qe 0, qd 0]] _ _ at hL
   change (if _ then .tup [.agg [qd k, qc ⟨#[]⟩, qd 0, qe 0, qd 0], _] else .tup [.agg [qd 0, qc ⟨#[]⟩, qd 0, qe 0, qd 0], _]) = R at hR
   refine G [4, 4, 3] ?_
   (first | refine zbX rfl ?_ | refine zay (fun n => 36 + 1000 * n) (hZ) rfl rfl func100 rfl rfl qw rfl rfl rfl qq rfl rfl rfl ?_)
   refine G [0, 4, 3] ?_
   skip
   refine G [8] ?_
   refine cK hL ?_
   refine G [7] ?_
   by_cases he : e = 0
   ·exact jau
   ·exact jbq
  have hbc : bc k v = ⟨k, v, 0, 0, 0⟩ := by unfold bc; rw [if_neg h28, if_neg h359, if_neg h10, if_neg (fun hh => hz hh.2)]
  have hL := zgB ⟨k, v, 0, 0, 0⟩ qal
  rw [hbc] at hR
  obtain ⟨w, u, hsR⟩ := ze2 ⟨k, v, 0, 0, 0⟩
  rw [hsR] at hL
  obtain ⟨hi1, hi2⟩ := zfg ⟨k, v, 0, 0, 0⟩ key v hsR
  rw [show (if isL ⟨k, v, 0, 0, 0⟩ key v then rdO ⟨k, v, 0, 0, 0⟩ 0 else rdO SE0 3) = if seE ⟨k, v, 0, 0, 0⟩ = 0 ∧ w = key ∧ u = v then rdO ⟨k, v, 0, 0, 0⟩ 0 else rdO SE0 3 from zgr ⟨hi1, hi2⟩] at hR
  clear hsR hi1 hi2
  generalize seE ⟨k, v, 0, 0, 0⟩ = e at *
  change Fn prog _ [.agg [qd k, qc v, qd 0, qe 0, qd 0]] _ _ at hL
  change (if _ then .tup [.agg [qd k, qc v, qd 0, qe 0, qd 0], _] else .tup [.agg [qd 0, qc ⟨#[]⟩, qd 0, qe 0, qd 0], _]) = R at hR
  refine G [4, 4, 3] ?_
  (first | refine zbX rfl ?_ | refine zay (fun n => 36 + 1000 * n) (hZ) rfl rfl func100 rfl rfl qw rfl rfl rfl qq rfl rfl rfl ?_)
  refine G [0, 3, 8] ?_
  refine cK hL ?_
  refine G [7] ?_
  by_cases he : e = 0
  ·exact jau
  ·exact jbq
 have hbc : bc k v = ⟨k, v, 0, 0, 0⟩ := by unfold bc; rw [if_neg h28, if_neg h359, if_neg h10, if_neg (fun hh => h6 hh.1)]
 have hL := zgB ⟨k, v, 0, 0, 0⟩ qal
 rw [hbc] at hR
 obtain ⟨w, u, hsR⟩ := ze2 ⟨k, v, 0, 0, 0⟩
 rw [hsR] at hL
 obtain ⟨hi1, hi2⟩ := zfg ⟨k, v, 0, 0, 0⟩ key v hsR
 rw [show (if isL ⟨k, v, 0, 0, 0⟩ key v then rdO ⟨k, v, 0, 0, 0⟩ 0 else rdO SE0 3) = if seE ⟨k, v, 0, 0, 0⟩ = 0 ∧ w = key ∧ u = v then rdO ⟨k, v, 0, 0, 0⟩ 0 else rdO SE0 3 from zgr ⟨hi1, hi2⟩] at hR
 clear hsR hi1 hi2
 generalize seE ⟨k, v, 0, 0, 0⟩ = e at *
 change Fn prog _ [.agg [qd k, qc v, qd 0, qe 0, qd 0]] _ _ at hL
 change (if _ then .tup [.agg [qd k, qc v, qd 0, qe 0, qd 0], _] else .tup [.agg [qd 0, qc ⟨#[]⟩, qd 0, qe 0, qd 0], _]) = R at hR
 refine G [4, 3, 13] ?_
 refine cK hL ?_
 refine G [7] ?_
 by_cases he : e = 0
 ·exact jau
 ·exact jbq
def C4 (k : Int) (v : ByteArray) (j : Nat) : SE :=
 if j = 0 then ⟨k, ⟨#[]⟩, 0, 0, 0⟩ else if j = 1 then ⟨k, v, 0, 0, 0⟩ else if j = 2 then ⟨k, ⟨#[]⟩, numV v 65535, 0, 0⟩ else ⟨k, ⟨#[]⟩, 0, npX v, npY v⟩
theorem C4_ok {k : Int} {v : ByteArray} (hv : v.size < 4294967281) (j : Nat) : (C4 k v j).OK := by
 have h1 := numV_in v
 have h2 := npX_in v
 unfold C4
 split
 ·exact jcG
 ·split
  ·exact ⟨hv, qC, qC, qC, qC⟩
  ·split
   ·exact jdn
   ·exact ⟨by show (0 : Nat) < _; omega, qC, qC, h2.1, h2.2⟩
theorem seE_F {s : SE} (h : seE s = 0) : ¬ seF s := by
 unfold seE at h
 split at h
 ·cases h
 ·split at h
  ·cases h
  ·assumption
theorem ten {k : Int} (h0 : 1 ≤ k) (h1 : k ≤ 10) : k = 1 ∨ k = 2 ∨ k = 3 ∨ k = 4 ∨ k = 5 ∨ k = 6 ∨ k = 7 ∨ k = 8 ∨ k = 9 ∨ k = 10 := qp
theorem zhG : itoS 0 = ⟨#[48]⟩ := by
 unfold itoS Lib.itoa
 rw [if_neg (by omega)]
 rw [show (0 : Int).toNat = 0 from rfl, Lib.decDigits_one (by decide)]
 rfl
theorem ntX_zero : ntX 0 0 = ⟨#[48, 46, 48, 46, 48, 46, 48, 47, 48]⟩ := by
 unfold ntX
 rw [if_pos (by decide)]
 unfold ntT
 rw [adT_eq]
 have h : ∀ k, adP 0 k = 0 := fun k => by unfold adP; simp
 rw [h, h, h, h, zhG]
 rfl
theorem numV_zero : numV ⟨#[48]⟩ 65535 = 0 := qap
theorem np_zero : npX ⟨#[48, 46, 48, 46, 48, 46, 48, 47, 48]⟩ = 0 ∧ npY ⟨#[48, 46, 48, 46, 48, 46, 48, 47, 48]⟩ = 0 := qap
theorem key_empty : keyE ⟨#[]⟩ ≠ 0 := qap
theorem en_empty : enE ⟨#[]⟩ ≠ 0 := qap
theorem c0_eq {k : Int} {v : ByteArray} (h0 : 1 ≤ k) (h1 : k ≤ 10) (h : seE ⟨k, ⟨#[]⟩, 0, 0, 0⟩ = 0) (hl : seL ⟨k, ⟨#[]⟩, 0, 0, 0⟩ = v) : (⟨k, ⟨#[]⟩, 0, 0, 0⟩ : SE) = bc k v := by
 have hV := seE_V h
 rcases ten h0 h1 with rfl | rfl | rfl | rfl | rfl | rfl | rfl | rfl | rfl | rfl
 ·rw [seV_1] at hV; exact absurd hV key_empty
 ·rw [seL_2, zhG] at hl; subst hl; simp [bc, numV_zero]
 ·simp [bc]
 ·rw [seV_4] at hV; exact absurd hV key_empty
 ·simp [bc]
 ·rw [seL_6, if_pos rfl] at hl; subst hl; simp [bc]
 ·rw [seV_7] at hV; exact absurd hV en_empty
 ·rw [seL_8, zhG] at hl; subst hl; simp [bc, numV_zero]
 ·simp [bc]
 ·rw [seL_10, ntX_zero] at hl; subst hl; simp [bc, np_zero.1, np_zero.2]
theorem c4_eq {k : Int} {v : ByteArray} (h0 : 1 ≤ k) (h1 : k ≤ 10) (j : Nat) (h : seE (C4 k v j) = 0) (hl : seL (C4 k v j) = v) : C4 k v j = bc k v := by
 have hF := seE_F h
 have hV := seE_V h
 unfold C4 at *
 by_cases j0 : j = 0
 ·rw [if_pos j0] at *
  exact c0_eq h0 h1 h hl
 rw [if_neg j0] at *
 by_cases j1 : j = 1
 ·rw [if_pos j1] at *
  by_cases hT : isT k = true
  ·have : k = 1 ∨ k = 4 ∨ k = 6 ∨ k = 7 := by simpa [isT, or_assoc] using hT
   rcases this with rfl | rfl | rfl | rfl
   ·simp [bc]
   ·simp [bc]
   ·by_cases hz : v = zdW
    ·rw [seV_6, if_neg (by rw [hz]; exact ziG), if_pos hz] at hV
     cases hV
    ·simp [bc, hz]
   ·simp [bc]
  ·have hv : v = ⟨#[]⟩ := by
    refine Decidable.byContradiction fun hne => hF (.inl ⟨by simpa using hT, hne⟩)
   rw [hv] at h hl
   have := c0_eq h0 h1 h hl
   rw [hv]
   exact this
 rw [if_neg j1] at *
 by_cases j2 : j = 2
 ·rw [if_pos j2] at *
  by_cases hN : isN k = true
  ·have : k = 2 ∨ k = 8 := by simpa [isN] using hN
   unfold bc
   rw [if_pos this]
  ·have hv : numV v 65535 = 0 := by
    refine Decidable.byContradiction fun hne => hF (.inr (.inl ⟨by simpa using hN, hne⟩))
   rw [hv] at h hl ⊢
   exact c0_eq h0 h1 h hl
 rw [if_neg j2] at *
 by_cases hC : isC k = true
 ·have : k = 10 := by simpa [isC] using hC
  subst this
  simp [bc]
 ·have hv : npX v = 0 ∧ npY v = 0 := by
   refine Decidable.byContradiction fun hne => hF (.inr (.inr ⟨by simpa using hC, hne⟩))
  rw [hv.1, hv.2] at h hl ⊢
  exact c0_eq h0 h1 h hl
theorem bc_in4 (k : Int) (v : ByteArray) : ∃ j, j < 4 ∧ C4 k v j = bc k v := by
 unfold bc
 split
 ·exact ⟨2, qp, by simp [C4]⟩
 ·split
  ·exact ⟨0, qp, by simp [C4]⟩
  ·split
   ·rename_i h; exact ⟨3, qp, by simp [C4]⟩
   ·split
    ·exact ⟨0, qp, by simp [C4]⟩
    ·exact ⟨1, qp, by simp [C4]⟩
theorem word_at0 : ∀ i : Nat, i < 11 → (zbd.drop (i * 1))[0]? = some (qg (word i))
 | 0, _ => rfl
 | 1, _ => rfl
 | 2, _ => rfl
 | 3, _ => rfl
 | 4, _ => rfl
 | 5, _ => rfl
 | 6, _ => rfl
 | 7, _ => rfl
 | 8, _ => rfl
 | 9, _ => rfl
 | 10, _ => rfl
 | n + 11, h => by omega
def C4V (k : Int) (v : ByteArray) : List PV := (C4 k v 0).pv ++ (C4 k v 1).pv ++ (C4 k v 2).pv ++ (C4 k v 3).pv
theorem C4V_at (k : Int) (v : ByteArray) {j : Nat} (h : j < 4) : ((C4V k v).drop (j * 5)).take 5 = (C4 k v j).pv := by
 match j, h with
 | 0, _ => rfl
 | 1, _ => rfl
 | 2, _ => rfl
 | 3, _ => rfl
theorem refRead_s (key v : ByteArray) (hv : v.size < 4294967281) : Fn Tryz.prog 95 [.agg [qc key, qc v]] (rdR key v) [] := by
 obtain ⟨R, hR⟩ : ∃ R, rdR key v = R := ⟨_, rfl⟩
 rw [hR]
 unfold rdR at hR
 have hW := zdg
 have hwat := word_at0
 have hks := @kdF_some key
 have hkn := kdF_none key 11
 unfold kd at hR
 have hWl : zbd.length = 11 := rfl
 generalize zbd = WV at *
 refine fnI fun w0 A => ?_
 refine G [9] ?_
 refine cK hW ?_
 refine G [4] ?_
 refine zac (fun m st => ∃ i : Nat, m + i = 11 ∧ (∀ j : Nat, j < i → 0 < j → word j ≠ key) ∧ st = St.of [(1, .ref 1 0), (2, .ref 2 0), (14, ql 11 1 WV), (15, qd 11), (16, qd i)] [(1, .box 139 [qc key, qc v]), (2, .box 107 [qd 0, qc ⟨#[]⟩, qd 0, qe 0, qd 0])]) 11 ?_ ?_
 ·exact jaT
 rintro m st ⟨i, hi, hf, rfl⟩
 refine G [5] ?_
 refine cX ?_ ?_ <;> intro h
 ·have hlt : i < 11 := qu
  clear h
  have hat := hwat i hlt
  have hkv : (0 < i → word i ≠ key) → ∀ st, Re st (St.of [(1, .ref 1 0), (2, .ref 2 0), (14, ql 11 1 WV), (15, qd 11), (16, qd ((i + 1 : Nat) : Int))] [(1, .box 139 [qc key, qc v]), (2, .box 107 [qd 0, qc ⟨#[]⟩, qd 0, qe 0, qd 0])]) →
   ∃ n', n' < m ∧ ∃ st1, Re st st1 ∧ ∃ i : Nat, n' + i = 11 ∧ (∀ j : Nat, j < i → 0 < j → word j ≠ key) ∧ st1 = St.of [(1, .ref 1 0), (2, .ref 2 0), (14, ql 11 1 WV), (15, qd 11), (16, qd i)] [(1, .box 139 [qc key, qc v]), (2, .box 107 [qd 0, qc ⟨#[]⟩, qd 0, qe 0, qd 0])] := fun hx st hre => by
   refine ⟨m - 1, qp, _, hre, i + 1, qp, fun j hj h0 => ?_, rfl⟩
   by_cases e : j = i
   ·subst e; exact hx h0
   ·exact hf j qp h0
  by_cases h0 : 0 < i
  ·by_cases hw : word i = key
   ·have hkd := hks h0 hlt hw 11 hlt qp
    rw [hkd, if_neg (by omega)] at hR
    have hA := fun j => @c4_eq (i : Int) v qp qp j
    obtain ⟨jb, hjb, hB⟩ := bc_in4 (i : Int) v
    have hlk := fun (j : Nat) (w u : ByteArray) => @zfg (C4 i v j) key v w u
    have hkk : ∀ j, (C4 i v j).k = i := fun j => by unfold C4; split; rfl; split; rfl; split <;> rfl
    have hL := fun j => refLine_s (C4 i v j) (C4_ok hv j)
    have hat4 := fun j hj => C4V_at (i : Int) v (j := j) hj
    have hl4 : (C4V (i : Int) v).length = 20 := rfl
    have hC0 : C4V (i : Int) v = [qh i, qg ⟨#[]⟩, qh 0, qi 0, qh 0, qh i, qg v, qh 0, qi 0, qh 0, qh i, qg ⟨#[]⟩, qh (numV v 65535), qi 0, qh 0, qh i, qg ⟨#[]⟩, qh 0, qi (npX v), qh (npY v)] := rfl
    have hN := zg2 v 65535 qp
    unfold numR at hN
    have hP := refNtParse_s v hv
    obtain ⟨pe, hnp⟩ := npR_eq v
    rw [hnp] at hP
    clear hnp
    generalize C4V (i : Int) v = CV at *
    generalize hCf : C4 (i : Int) v = C at *
    generalize bc (i : Int) v = B at *
    refine G [7] ?_
    refine jfb (zaG U9 rfl hat) ?_
    refine G [7, 3, 4, 3, 8] ?_
    refine cK hN ?_
    refine G [10] ?_
    refine cK hP ?_
    refine G [7] ?_
    generalize numV v 65535 = nv at *
    generalize npX v = xa at *
    generalize npY v = xb at *
    refine G [15] ?_
    refine zab (xs := [.agg [qd i, qc ⟨#[]⟩, qd 0, qe 0, qd 0], .agg [qd i, qc v, qd 0, qe 0, qd 0], .agg [qd i, qc ⟨#[]⟩, qd nv, qe 0, qd 0], .agg [qd i, qc ⟨#[]⟩, qd 0, qe xa, qd xb]]) (zag (es := [qd i, qc ⟨#[]⟩, qd 0, qe 0, qd 0, qd i, qc v, qd 0, qe 0, qd 0, qd i, qc ⟨#[]⟩, qd nv, qe 0, qd 0, qd i, qc ⟨#[]⟩, qd 0, qe xa, qd xb]) (cs := [qh i, qg ⟨#[]⟩, qh 0, qi 0, qh 0, qh i, qg v, qh 0, qi 0, qh 0, qh i, qg ⟨#[]⟩, qh nv, qi 0, qh 0, qh i, qg ⟨#[]⟩, qh 0, qi xa, qh xb]) 53 U27 zdJ zc107 (qbe rfl) (qbe rfl) rfl qr qr qr (qbe rfl)) qP rfl ⟨rfl, trivial⟩ ?_
    refine G [4] ?_
    refine zac (fun m' st => ∃ j : Nat, m' + j = 4 ∧ (∀ q, q < j → ¬ isL (C q) key v) ∧ st = St.of [(1, .ref 1 0), (2, .ref 2 0), (53, .row 53), (54, qd 4), (55, qd j)] [(1, .box 139 [qc key, qc v]), (2, .box 107 [qd 0, qc ⟨#[]⟩, qd 0, qe 0, qd 0]), (53, .row 107 5 4 CV)]) 4 ?_ ?_
    ·refine jeC ?_ ?_
     ·exact jap
     ·rw [hC0]
      exact jaR
    clear hC0
    rintro m' st ⟨j, hj, hfj, rfl⟩
    refine G [5] ?_
    refine cX ?_ ?_ <;> intro h
    ·have hlj : j < 4 := qu
     clear h
     have hch := hat4 j hlj
     obtain ⟨w, u, hsR⟩ := ze2 (C j)
     have hLj := hL j
     have hlkj := hlk j w u hsR
     rw [hsR] at hLj
     have hAj := hA j
     have hnxj : ¬ isL (C j) key v → ∀ q, q < j + 1 → ¬ isL (C q) key v := fun hn q hq => by
      by_cases e : q = j
      ·subst e; exact hn
      ·exact hfj q qp
     clear hsR hL hA hat4
     generalize C j = cj at *
     generalize seE cj = e at *
     obtain ⟨ck, ct, cn, ca, cb⟩ := cj
     change _ = [PV.v (.int .i64 ck), qg ct, qh cn, qi ca, qh cb] at hch
     change Fn Tryz.prog _ [.agg [qd ck, qc ct, qd cn, qe ca, qd cb]] _ _ at hLj
     refine G [5] ?_
     refine zab (zat U27 zdJ qp qp (show _ = j * 5 by omega)) rfl rfl ⟨rfl, trivial⟩ ?_
     refine zab (zeP U107 rfl zdJ qp (hch)) rfl rfl ⟨rfl, trivial⟩ ?_
     refine jfc (zaW 11 zr107 rfl) ?_
     refine jfc (zad (Y := .agg [qd ck, qc ct, qd cn, qe ca, qd cb]) zdJ rfl rfl (qbf rfl)) ?_
     refine G [4] ?_
     refine cK hLj ?_
     refine G [7] ?_
     have hgo : ¬ isL ⟨ck, ct, cn, ca, cb⟩ key v → ∀ st, Re st (St.of [(1, .ref 1 0), (2, .ref 2 0), (53, .row 53), (54, qd 4), (55, qd ((j + 1 : Nat) : Int))] [(1, .box 139 [qc key, qc v]), (2, .box 107 [qd 0, qc ⟨#[]⟩, qd 0, qe 0, qd 0]), (53, .row 107 5 4 CV)]) →
      ∃ n', n' < m' ∧ ∃ st1, Re st st1 ∧ ∃ j : Nat, n' + j = 4 ∧ (∀ q, q < j → ¬ isL (C q) key v) ∧ st1 = St.of [(1, .ref 1 0), (2, .ref 2 0), (53, .row 53), (54, qd 4), (55, qd j)] [(1, .box 139 [qc key, qc v]), (2, .box 107 [qd 0, qc ⟨#[]⟩, qd 0, qe 0, qd 0]), (53, .row 107 5 4 CV)] := fun hn st hre => ⟨m' - 1, qp, _, hre, j + 1, qp, hnxj hn, rfl⟩
     by_cases he : e = 0
     ·by_cases hwu : w = key ∧ u = v
      ·have hisL := hlkj.2 ⟨he, hwu.1, hwu.2⟩
       have hceq := hAj he hisL.2.2
       rw [← hceq, if_pos hisL] at hR
       change AV.tup [.agg [qd ck, qc ct, qd cn, qe ca, qd cb], qd 0] = R at hR
       subst hR
       refine G [3, 4, 3] ?_
       refine zaa (zbW U139 rfl rfl qr qr qr (c := true) (by rw [hwu.1, hwu.2, zb6])) rfl rfl ?_
       refine G [9] ?_
       exact ja8
      ·refine G [3, 4, 3] ?_
       refine zaa (zbW U139 rfl rfl qr qr qr (c := false) (by rw [zeV]; simp only [qcr, decide_eq_false_iff_not]; grind)) rfl rfl ?_
       refine jdQ ?_
       refine hgo (fun hh => hwu (hlkj.1 hh).2) _ (zae id _ _ ?_ ?_ rfl)
       ·exact jap
       ·exact jaR
     ·refine G [3, 3, 12, 9, 0] ?_
      refine hgo (fun hh => he (hlkj.1 hh).1) _ (zae id _ _ ?_ ?_ rfl)
      ·exact jap
      ·exact jaR
    have hge : j = 4 := qu
    clear h
    subst hge
    rw [← hB, if_neg (hfj jb hjb)] at hR
    change AV.tup [.agg [qd 0, qc ⟨#[]⟩, qd 0, qe 0, qd 0], qd 3] = R at hR
    subst hR
    exact jbh
   ·refine G [7] ?_
    refine jfb (zaG U9 rfl hat) ?_
    refine G [7, 3, 4, 4, 8, 9, 0] ?_
    refine hkv (fun _ => hw) _ (zae id _ _ ?_ ?_ rfl)
    ·exact jap
    ·exact ja5
  ·refine G [7] ?_
   refine jfb (zaG U9 rfl hat) ?_
   refine G [7, 4, 13, 9, 0] ?_
   refine hkv (fun h1 => absurd h1 h0) _ (zae id _ _ ?_ ?_ rfl)
   ·exact jap
   ·exact ja5
 have hge : i = 11 := qu
 clear h
 subst hge
 rw [hkn hf, if_pos rfl] at hR
 change AV.tup [.agg [qd 0, qc ⟨#[]⟩, qd 0, qe 0, qd 0], qd 2] = R at hR
 subst hR
 exact jbh
abbrev LnP := ByteArray × ByteArray
def badK (c : Int) : Bool := (decide (c < 97) || decide (122 < c)) && (c != 95)
def badV (c : Int) : Bool := decide (c ≤ 32) || decide (126 < c)
def anyAt (p : Int → Bool) (s : ByteArray) : Bool := (List.range s.size).any fun i => p (sAt s i)
theorem zeN {p : Int → Bool} {s : ByteArray} {i : Nat} (hi : i < s.size) (h : p (sAt s i) = true) : anyAt p s = true := by
 unfold anyAt; rw [List.any_eq_true]; exact ⟨i, by simpa using hi, h⟩
theorem zeb {p : Int → Bool} {s : ByteArray} (h : ∀ j, j < s.size → p (sAt s j) = false) : anyAt p s = false := by
 unfold anyAt; rw [List.any_eq_false]; intro i hi; rw [h i (by simpa using hi)]; simp
def zio (k v : ByteArray) : Bool := (decide ((k.size : Int) < 1) || decide (30 < (k.size : Int))) || decide (70 < (v.size : Int))
def zi2 (k v : ByteArray) : Int := if zio k v = true then 1 else if anyAt badK k = true then 3 else if anyAt badV v = true then 3 else 0
def lnC (p : ByteArray × ByteArray) : List PV := [qg p.1, qg p.2]
def lnA (k v : ByteArray) : List AV := [qc k, qc v]
theorem lcheck_s (k v : ByteArray) (hk : k.size ≤ 140737488351232) (hv : v.size ≤ 140737488351232) : Fn Tryz.prog 123 [.agg (lnA k v)] (qd (zi2 k v)) [] := by
 unfold zi2
 refine fnI fun w0 A => ?_
 refine G [15] ?_
 refine mb2 _ rfl rfl (fun hb => (zdz U9)) (fun _ => trivial) ?_
 refine G [1, 2, 3] ?_
 refine mb2 _ rfl rfl (fun hb => (zdz U9)) (fun _ => trivial) ?_
 refine G [1, 2, 1, 9, 0] ?_
 refine cX ?_ ?_ <;> intro h
 ·rw [if_pos (show zio k v = true from h)]
  exact ja4
 rw [if_neg (show ¬ zio k v = true by have h' : zio k v = false := h; simp [h'])]
 clear h
 refine G [10] ?_
 refine zac (fun m st => ∃ i : Nat, m + i = k.size ∧ (∀ j, j < i → badK (sAt k j) = false) ∧ st = St.of [(1, .ref 1 0), (25, qd k.size), (26, qd i)] [(1, .box 139 (lnA k v))]) k.size ?_ ?_
 ·exact jaA
 rintro m st ⟨i, hi, hf, rfl⟩
 refine G [5] ?_
 refine cX ?_ ?_ <;> intro h
 ·have hlt : i < k.size := qu
  clear h
  have g1 := zgb hlt
  have hat := @zeN badK k i hlt
  have hb := sAt_B hlt
  generalize hc : sAt k i = c at *
  refine G [13] ?_
  refine jeG ?_
  refine G [9, 2, 3, 2, 1, 9, 0] ?_
  refine cX ?_ ?_ <;> intro h
  ·rw [if_pos (hat h)]
   exact ja4
  ·have h1 : badK c = false := h
   exact jbT
 have hge : i = k.size := qu
 clear h
 subst hge
 rw [if_neg (by rw [zeb hf]; simp)]
 refine G [10] ?_
 refine zac (fun m st => ∃ i : Nat, m + i = v.size ∧ (∀ j, j < i → badV (sAt v j) = false) ∧ st = St.of [(1, .ref 1 0), (46, qd v.size), (47, qd i)] [(1, .box 139 (lnA k v))]) v.size ?_ ?_
 ·exact jaA
 rintro m st ⟨i, hi, hf, rfl⟩
 refine G [5] ?_
 refine cX ?_ ?_ <;> intro h
 ·have hlt : i < v.size := qu
  clear h
  have g1 := zgb hlt
  have hat := @zeN badV v i hlt
  have hb := sAt_B hlt
  generalize hc : sAt v i = c at *
  refine G [13] ?_
  refine jeG ?_
  refine G [9, 2, 1, 9, 0] ?_
  refine cX ?_ ?_ <;> intro h
  ·rw [if_pos (hat h)]
   exact ja4
  ·have h1 : badV c = false := h
   exact jbT
 exact jdf
theorem refLFault_s (k v : ByteArray) (hk : k.size ≤ 140737488351232) (hv : v.size ≤ 140737488351232) : Fn Tryz.prog 136 [.agg (lnA k v)] (qd (zi2 k v)) [] := by
 unfold zi2
 have hsz : zio k v = ((decide (k = ⟨#[]⟩) || decide (30 < (k.size : Int))) || decide (70 < (v.size : Int))) := by
  unfold zio
  rw [show decide ((k.size : Int) < 1) = decide (k = ⟨#[]⟩) from decide_eq_decide.2 ⟨fun h => ByteArray.size_eq_zero_iff.1 (by omega), fun h => by rw [h]; decide⟩]
 have lk : (bs (sb k)).length = k.size := by rw [bs_length, zfy]
 have lv : (bs (sb v)).length = v.size := by rw [bs_length, zfy]
 refine fnI fun w0 A => ?_
 refine G [14] ?_
 refine mb2 _ rfl rfl (fun hb => (zdz U9)) (fun _ => trivial) ?_
 refine G [1, 2, 3] ?_
 refine mb2 _ rfl rfl (fun hb => (zdz U9)) (fun _ => trivial) ?_
 refine G [1, 2, 1, 9, 0] ?_
 refine cX ?_ ?_ <;> intro h
 ·rw [if_pos (hsz.trans h)]
  exact ja4
 rw [if_neg (by rw [hsz.trans h]; simp)]
 clear h hsz
 refine G [6] ?_
 refine zab (a_s2b 24 U9 U91 U5 qav rfl rfl) rfl rfl ⟨rfl, trivial⟩ ?_
 refine G [4] ?_
 refine zac (fun m st => ∃ i : Nat, m + i = k.size ∧ (∀ j, j < i → badK (sAt k j) = false) ∧ st = St.of [(1, .ref 1 0), (24, .row 24), (25, qd k.size), (26, qd i)] [(1, .box 139 (lnA k v)), (24, .row 5 1 k.size (bs (sb k)))]) k.size ?_ ?_
 ·exact jaT
 rintro m st ⟨i, hi, hf, rfl⟩
 refine G [5] ?_
 refine cX ?_ ?_ <;> intro h
 ·have hlt : i < k.size := qu
  clear h
  have g1 := bs_at (sb_at hlt)
  have hat := @zeN badK k i hlt
  have hb := sAt_B hlt
  generalize hc : sAt k i = c at *
  refine G [5] ?_
  refine zab (zat U91 sz5 qp qp (show _ = i by omega)) rfl rfl ⟨rfl, trivial⟩ ?_
  refine jdP ?_
  refine G [12] ?_
  refine r_mb3 _ rfl rfl (.mb _ _ _ _ qaY (.keep _ _ _ (.keep _ _ _ .nil))) (fun hb => (a_or qau)) (fun _ => trivial) ?_
  refine G [0, 2, 1] ?_
  have hcm : ((c != 95) && (decide (c < 97) || decide (122 < c))) = badK c := by unfold badK; rw [Bool.and_comm]
  rw [hcm]
  refine zaH (cX (fun h => ?_) fun h => ?_)
  ·rw [if_pos (hat h)]
   exact ja4
  ·refine jdD ?_
   refine ⟨m - 1, qp, _, zae id _ _ ?_ ?_ rfl, i + 1, qp, ?_, rfl⟩
   ·exact jap
   ·exact ja5
   ·intro j hj
    by_cases e : j = i
    ·subst e; rw [hc]; exact h
    ·exact hf j qp
 have hge : i = k.size := qu
 clear h
 subst hge
 rw [if_neg (by rw [zeb hf]; simp)]
 refine G [6] ?_
 refine zab (a_s2b 43 U9 U91 U5 qav rfl rfl) rfl rfl ⟨rfl, trivial⟩ ?_
 refine G [4] ?_
 refine zac (fun m st => ∃ i : Nat, m + i = v.size ∧ (∀ j, j < i → badV (sAt v j) = false) ∧ st = St.of [(43, .row 43), (44, qd v.size), (45, qd i)] [(43, .row 5 1 v.size (bs (sb v)))]) v.size ?_ ?_
 ·exact jaA
 rintro m st ⟨i, hi, hf, rfl⟩
 refine G [5] ?_
 refine cX ?_ ?_ <;> intro h
 ·have hlt : i < v.size := qu
  clear h
  have g1 := bs_at (sb_at hlt)
  have hat := @zeN badV v i hlt
  have hb := sAt_B hlt
  generalize hc : sAt v i = c at *
  refine G [5] ?_
  refine zab (zat U91 sz5 qp qp (show _ = i by omega)) rfl rfl ⟨rfl, trivial⟩ ?_
  refine jdP ?_
  refine G [9, 2, 1] ?_
  have hcm : (decide (c < 33) || decide (126 < c)) = badV c := by
   unfold badV; rw [show decide (c < 33) = decide (c ≤ 32) from decide_eq_decide.2 (by omega)]
  rw [hcm]
  refine zaH (cX (fun h => ?_) fun h => ?_)
  ·rw [if_pos (hat h)]
   exact ja4
  ·refine jdD ?_
   refine ⟨m - 1, qp, _, zae id _ _ ?_ ?_ rfl, i + 1, qp, ?_, rfl⟩
   ·exact jap
   ·exact ja3
   ·intro j hj
    by_cases e : j = i
    ·subst e; rw [hc]; exact h
    ·exact hf j qp
 exact jdf
def pcE (t : ByteArray) : Int := if 0 ≤ ixB t 61 then zi2 (cutA t 61) (cutZ t 61) else 3
def lnOf (t : ByteArray) : LnP := (cutA t 61, cutZ t 61)
def badAt : List ByteArray → Nat → Option (Int × Int)
 | [], _ => none
 | t :: l, i => if pcE t ≠ 0 then some ((i : Int) + 1, pcE t) else badAt l (i + 1)
theorem zhX {t : ByteArray} : ∀ {l : List ByteArray} {i k : Nat}, l[i]? = some t → (∀ q ∈ l.take i, pcE q = 0) → pcE t ≠ 0 → badAt l k = some (((k + i : Nat) : Int) + 1, pcE t)
 | [], i, k, h, _, _ => by simp at h
 | a :: l, 0, k, h, _, ht => by
  simp at h; subst h
  unfold badAt
  rw [if_pos ht]; rfl
 | a :: l, i + 1, k, h, hf, ht => by
  have h0 := hf a qC
  unfold badAt
  rw [if_neg (by simp [h0]), zhX (i := i) (k := k + 1) (by simpa using h) (fun q hq => hf q (by simp [hq])) ht]
  congr 3; omega
theorem zjk : ∀ {l : List ByteArray} {k : Nat}, (∀ q ∈ l, pcE q = 0) → badAt l k = none
 | [], _, _ => rfl
 | a :: l, k, h => by
  unfold badAt
  rw [if_neg (by simp [h a (by simp)]), zjk fun q hq => h q (by simp [hq])]
theorem takeB_ok {l : List ByteArray} {i : Nat} {p : ByteArray} (hi : l[i]? = some p) (hf : ∀ q ∈ l.take i, pcE q = 0) (hp : pcE p = 0) : ∀ q ∈ l.take (i + 1), pcE q = 0 := by
 exact jbW
theorem zib {l : List ByteArray} {i : Nat} {p : ByteArray} (hi : l[i]? = some p) : ((l.take (i + 1)).map lnOf).flatMap lnC = ((l.take i).map lnOf).flatMap lnC ++ [qg (cutA p 61), qg (cutZ p 61)] := by
 obtain ⟨h1, h2⟩ := qbl.1 hi
 rw [qbn h1, h2, qbF, qbD]
 rfl
def spO (s : ByteArray) : Option (Int × Int) := if 3000 < s.size then some (0, 1) else if s = ⟨#[]⟩ then some (0, 0) else if 59 < cntB s 10 then some (0, 1) else badAt (spl s 10) 0
def spR : Option (Int × Int) → AV
 | some (n, e) => .tup [.p (.v (.slice none 0 0)), .p (.v (.int .i64 n)), .p (.v (.int .i64 e))]
 | none => .tup [.row 0, .p (.v (.int .i64 0)), .p (.v (.int .i64 0))]
def spN (l : List LnP) : Option (Int × Int) → List (Nat × AObj)
 | some _ => []
 | none => [(0, .row 139 2 l.length (l.flatMap lnC))]
theorem lsplit_s (s : ByteArray) : Fn prog 91 [qc s] (spR (spO s)) (spN ((spl s 10).map lnOf) (spO s)) := by
 obtain ⟨o, hO⟩ : ∃ o, spO s = o := ⟨_, rfl⟩
 rw [hO]
 unfold spO at hO
 refine fnI fun w0 A => ?_
 refine G [13, 9, 0] ?_
 refine cX ?_ ?_ <;> intro h
 ·have h1 : 3000 < s.size := qu
  rw [if_pos h1] at hO
  subst hO
  exact jb3
 have h1 : ¬ 3000 < s.size := qu
 clear h
 rw [if_neg h1] at hO
 refine jdv ?_
 refine cX ?_ ?_ <;> intro h
 ·have h2 : s = ⟨#[]⟩ := qz
  rw [if_pos h2] at hO
  subst hO
  exact jb3
 have h2 : s ≠ ⟨#[]⟩ := qz
 clear h
 rw [if_neg h2] at hO
 have hSp := zg1 s 10 qp
 have hlen := zcJ s 10
 have hsz := zfw s 10
 have hcl := zjd s 10
 generalize spl s 10 = ps at *
 generalize cntB s 10 = N at *
 refine G [4] ?_
 refine zbG (fun n => 20 + 1000 * n) (hSp) rfl rfl func121 rfl rfl qJ qJ rfl rfl rfl qq rfl rfl rfl ?_
 refine G [9, 9, 0] ?_
 refine cX ?_ ?_ <;> intro h
 ·have h3 : 59 < N := qu
  rw [if_pos h3] at hO
  subst hO
  exact jb3
 have h3 : ¬ 59 < N := qu
 clear h
 rw [if_neg h3] at hO
 refine G [12, 9, 0] ?_
 refine zaK (zbF 6 100 139 2 rfl rfl) ?_
 refine zaw (zac (fun m st => ∃ i : Nat, m + i = N + 1 ∧ (∀ q ∈ ps.take i, pcE q = 0) ∧ st = St.of [(6, .row 100), (24, .row 20), (25, qd (N + 1 : Nat)), (26, qd i)] [(20, .row 9 1 (N + 1) (strs ps)), (100, .row 139 2 i (((ps.take i).map lnOf).flatMap lnC))]) (N + 1) ?_ ?_)
 ·refine ⟨_, zae id _ _ ?_ ?_ rfl, 0, qp, qC, rfl⟩
  ·exact jap
  ·exact ja5
 rintro m st ⟨i, hi, hf, rfl⟩
 refine G [5] ?_
 refine cX ?_ ?_ <;> intro h
 ·have hlt : i < ps.length := qu
  clear h
  obtain ⟨p, hp⟩ := qo hlt
  have hat := zg0 hp
  have hpz := hsz p (qbh hp)
  have hbad := @zhX p ps i 0 hp hf
  have hok := takeB_ok hp hf
  have hnx := zib hp
  have hCut := cut1_s p 61 qp
  have hC := lcheck_s (cutA p 61) (cutZ p 61) (by have := zdU p 61; omega) (by have := zdo p 61; omega)
  have hE : pcE p = if 0 ≤ ixB p 61 then zi2 (cutA p 61) (cutZ p 61) else 3 := rfl
  have hsl : (strs ps).length = N + 1 := qbc
  rw [Nat.zero_add] at hbad
  generalize pcE p = pe at *
  generalize zi2 (cutA p 61) (cutZ p 61) = e at *
  generalize cutA p 61 = k at *
  generalize cutZ p 61 = v at *
  generalize ixB p 61 = ix at *
  generalize strs ps = SP at *
  change Fn prog _ [.agg [qc k, qc v]] _ _ at hC
  refine G [6] ?_
  refine zab (zat U168 sz9 qp qp (show _ = i by omega)) rfl rfl ⟨rfl, trivial⟩ ?_
  refine jfc (zbC U9 rfl hat) ?_
  refine G [6] ?_
  refine cV hCut ?_
  refine G [14, 9, 0] ?_
  refine cX ?_ ?_ <;> intro h
  ·exact jcO
  have h4 : 0 ≤ ix := qu
  clear h
  rw [if_pos h4] at hE
  refine G [13] ?_
  refine cV hC ?_
  refine jdv ?_
  refine cX ?_ ?_ <;> intro h
  ·have h5 : e ≠ 0 := qz
   rw [hbad (by omega), hE] at hO
   subst hO
   exact jcz
  have h5 : e = 0 := qz
  clear h
  refine G [4] ?_
  refine zab (xs := [.agg [qc k, qc v]]) (zag (es := [qc k, qc v]) (cs := [qg k, qg v]) 53 U135 sz139 zc139 (qbe rfl) (qbe rfl) rfl qr qr qr (qbe rfl)) qP rfl ⟨rfl, trivial⟩ ?_
  refine zab (zaq 54 U135 eo139 (zaS) qB qp (show _ = i + 1 by omega) hnx.symm) rfl rfl ⟨rfl, rfl, rfl, trivial⟩ ?_
  refine jdI ?_
  refine ⟨m - 1, qp, _, zae (fun o => bif Nat.beq o 20 then 20 else 54) _ _ ?_ ?_ rfl, i + 1, qp, hok qp, rfl⟩
  ·exact jap
  ·exact ja5
 exact jbH
theorem refLOf_s (s : ByteArray) : Fn prog 94 [qc s] (spR (spO s)) (spN ((spl s 10).map lnOf) (spO s)) := by
 obtain ⟨o, hO⟩ : ∃ o, spO s = o := ⟨_, rfl⟩
 rw [hO]
 unfold spO at hO
 have hCn := count1_s s 10
 have hlen := zcJ s 10
 have hsz := zfw s 10
 have hcl := zjd s 10
 have hSp := zg1 s 10
 generalize spl s 10 = ps at *
 generalize cntB s 10 = N at *
 refine fnI fun w0 A => ?_
 refine G [14] ?_
 refine mb2 _ rfl rfl (fun _ => zbc func134 rfl rfl (hCn) qw rfl) (fun _ => trivial) ?_
 refine G [1, 2, 1, 9, 0] ?_
 refine cX ?_ ?_ <;> intro h
 ·have h1 : 3000 < s.size ∨ 59 < N := qu
  by_cases h0 : 3000 < s.size
  ·rw [if_pos h0] at hO
   subst hO
   exact jb3
  ·rw [if_neg h0] at hO
   have h2 : s ≠ ⟨#[]⟩ := by
    intro e
    have : s.size = 0 := by rw [e]; rfl
    omega
   rw [if_neg h2, if_pos (by omega)] at hO
   subst hO
   exact jb3
 have h1 : ¬ 3000 < s.size ∧ ¬ 59 < N := qu
 clear h
 obtain ⟨h1, h3⟩ := h1
 rw [if_neg h1] at hO
 refine G [11, 9, 0] ?_
 refine cX ?_ ?_ <;> intro h
 ·have h2 : s = ⟨#[]⟩ := qz
  rw [if_pos h2] at hO
  subst hO
  exact jb3
 have h2 : s ≠ ⟨#[]⟩ := qz
 clear h
 rw [if_neg h2, if_neg h3] at hO
 replace hSp := hSp qp
 refine G [5] ?_
 refine zbG (fun n => 22 + 1000 * n) (hSp) rfl rfl func121 rfl rfl qJ qJ rfl rfl rfl qq rfl rfl rfl ?_
 refine jdR ?_
 refine zaK (zbF 5 100 139 2 rfl rfl) ?_
 refine zaw (zac (fun m st => ∃ i : Nat, m + i = N + 1 ∧ (∀ q ∈ ps.take i, pcE q = 0) ∧ st = St.of [(5, .row 100), (22, .row 22), (23, qd (N + 1 : Nat)), (24, qd i)] [(22, .row 9 1 (N + 1) (strs ps)), (100, .row 139 2 i (((ps.take i).map lnOf).flatMap lnC))]) (N + 1) ?_ ?_)
 ·refine ⟨_, zae id _ _ ?_ ?_ rfl, 0, qp, qC, rfl⟩
  ·exact jap
  ·exact ja5
 rintro m st ⟨i, hi, hf, rfl⟩
 refine G [5] ?_
 refine cX ?_ ?_ <;> intro h
 ·have hlt : i < ps.length := qu
  clear h
  obtain ⟨p, hp⟩ := qo hlt
  have hat := zg0 hp
  have hpz := hsz p (qbh hp)
  have hbad := @zhX p ps i 0 hp hf
  have hok := takeB_ok hp hf
  have hnx := zib hp
  have hIx := zi5 p 61
  have hC := refLFault_s (cutA p 61) (cutZ p 61) (by have := zdU p 61; omega) (by have := zdo p 61; omega)
  have hE : pcE p = if 0 ≤ ixB p 61 then zi2 (cutA p 61) (cutZ p 61) else 3 := rfl
  have hsl : (strs ps).length = N + 1 := qbc
  have hA : cutA p 61 = if 0 ≤ ixB p 61 then p.extract 0 (ixB p 61).toNat else p := rfl
  have hZ : cutZ p 61 = if 0 ≤ ixB p 61 then p.extract ((ixB p 61).toNat + 1) p.size else ⟨#[]⟩ := rfl
  have hlx := ixB_lt p 61
  rw [Nat.zero_add] at hbad
  generalize pcE p = pe at *
  generalize zi2 (cutA p 61) (cutZ p 61) = e at *
  generalize cutA p 61 = k at *
  generalize cutZ p 61 = v at *
  generalize ixB p 61 = ix at *
  generalize strs ps = SP at *
  change Fn prog _ [.agg [qc k, qc v]] _ _ at hC
  refine G [6] ?_
  refine zab (zat U168 sz9 qp qp (show _ = i by omega)) rfl rfl ⟨rfl, trivial⟩ ?_
  refine jfc (zbC U9 rfl hat) ?_
  refine G [6] ?_
  refine cV hIx ?_
  refine jdQ ?_
  refine cX ?_ ?_ <;> intro h
  ·exact jcO
  have h4 : 0 ≤ ix := qu
  clear h
  rw [if_pos h4] at hE hA hZ
  obtain ⟨n, rfl⟩ := qbw h4
  rw [qbx] at hA hZ
  subst hA hZ
  refine G [5] ?_
  refine zaa (zci (L := none) (H := (some (_, _))) U9 rfl ⟨qp, (show _ = n by omega)⟩ qp qp rfl) rfl rfl ?_
  refine G [2] ?_
  refine zaa (zgF (show _ = ((n + 1 : Nat) : Int) by rw [IntKind.wrap_i64]; omega)) rfl rfl ?_
  refine zaa (zci (L := (some (_, _))) (H := none) U9 ⟨qp, (show _ = n + 1 by omega)⟩ rfl qp qp rfl) rfl rfl ?_
  refine G [8] ?_
  refine cV hC ?_
  refine jdv ?_
  refine cX ?_ ?_ <;> intro h
  ·have h5 : e ≠ 0 := qz
   rw [hbad (by omega), hE] at hO
   subst hO
   exact jcz
  have h5 : e = 0 := qz
  clear h
  refine G [4] ?_
  refine zab (xs := [.agg [qc (p.extract 0 n), qc (p.extract (n + 1) p.size)]]) (zag (es := [qc (p.extract 0 n), qc (p.extract (n + 1) p.size)]) (cs := [qg (p.extract 0 n), qg (p.extract (n + 1) p.size)]) 52 U135 sz139 zc139 (qbe rfl) (qbe rfl) rfl qr qr qr (qbe rfl)) qP rfl ⟨rfl, trivial⟩ ?_
  refine zab (zaq 53 U135 eo139 (zaS) qB qp (show _ = i + 1 by omega) hnx.symm) rfl rfl ⟨rfl, rfl, rfl, trivial⟩ ?_
  refine jdI ?_
  refine ⟨m - 1, qp, _, zae (fun o => bif Nat.beq o 22 then 22 else 53) _ _ ?_ ?_ rfl, i + 1, qp, hok qp, rfl⟩
  ·exact jap
  ·exact ja5
 exact jbH
noncomputable def rdE (p : LnP) : Int := if kd p.1 = 0 then 2 else if isL (bc (kd p.1) p.2) p.1 p.2 then 0 else 3
noncomputable def rdS (p : LnP) : SE := if kd p.1 = 0 then SE0 else if isL (bc (kd p.1) p.2) p.1 p.2 then bc (kd p.1) p.2 else SE0
theorem rdR_eq (p : LnP) : rdR p.1 p.2 = rdO (rdS p) (rdE p) := by
 unfold rdR rdS rdE
 split
 ·rfl
 ·split <;> rfl
def bdA (f : LnP → Int) : List LnP → Nat → Option (Int × Int)
 | [], _ => none
 | t :: l, i => if f t ≠ 0 then some ((i : Int) + 1, f t) else bdA f l (i + 1)
theorem bdA_hit {f : LnP → Int} {t : LnP} : ∀ {l : List LnP} {i k : Nat}, l[i]? = some t → (∀ q ∈ l.take i, f q = 0) → f t ≠ 0 → bdA f l k = some (((k + i : Nat) : Int) + 1, f t)
 | [], i, k, h, _, _ => by simp at h
 | a :: l, 0, k, h, _, ht => by
  simp at h; subst h
  unfold bdA
  rw [if_pos ht]; rfl
 | a :: l, i + 1, k, h, hf, ht => by
  have h0 := hf a qC
  unfold bdA
  rw [if_neg (by simp [h0]), bdA_hit (i := i) (k := k + 1) (by simpa using h) (fun q hq => hf q (by simp [hq])) ht]
  congr 3; omega
theorem bdA_ok {f : LnP → Int} : ∀ {l : List LnP} {k : Nat}, (∀ q ∈ l, f q = 0) → bdA f l k = none
 | [], _, _ => rfl
 | a :: l, k, h => by
  unfold bdA
  rw [if_neg (by simp [h a (by simp)]), bdA_ok fun q hq => h q (by simp [hq])]
theorem takeL_ok {f : LnP → Int} {l : List LnP} {i : Nat} {p : LnP} (hi : l[i]? = some p) (hf : ∀ q ∈ l.take i, f q = 0) (hp : f p = 0) : ∀ q ∈ l.take (i + 1), f q = 0 := by
 obtain ⟨h1, h2⟩ := qbl.1 hi
 rw [qbn h1, h2]
 intro q hq
 rcases qbz.1 hq with h | h
 ·exact hf q h
 ·have : q = p := qz
  rw [this]; exact hp
theorem zia {l : List LnP} {i : Nat} {p : LnP} (hi : l[i]? = some p) : ((l.take (i + 1)).map rdS).flatMap SE.pv = ((l.take i).map rdS).flatMap SE.pv ++ (rdS p).pv := by
 obtain ⟨h1, h2⟩ := qbl.1 hi
 rw [qbn h1, h2, qbF, qbD]
 simp
noncomputable def bpO (s : ByteArray) : Option (Int × Int) := match spO s with
 | some (n, e) => some (if e = 0 then (0, 0) else (n, e))
 | none => bdA rdE ((spl s 10).map lnOf) 0
def bpN (l : List SE) : Option (Int × Int) → List (Nat × AObj)
 | some _ => []
 | none => [(0, .row 107 5 l.length (l.flatMap SE.pv))]
theorem ziK {s : ByteArray} (h : spO s = none) : s.size ≤ 3000 ∧ cntB s 10 ≤ 59 := by
 unfold spO at h
 split at h
 ·cases h
 split at h
 ·cases h
 split at h
 ·cases h
 ·omega
theorem bp_lines {s : ByteArray} (h : s.size ≤ 3000) : ∀ p ∈ (spl s 10).map lnOf, p.2.size ≤ 3000 := by
 intro p hp
 obtain ⟨t, ht, rfl⟩ := qbo.1 hp
 have h1 := zfw s 10 t ht
 have h2 := zdo t 61
 show (cutZ t 61).size ≤ 3000
 omega
theorem zjh (s : ByteArray) : Fn prog 59 [qc s] (spR (bpO s)) (bpN (((spl s 10).map lnOf).map rdS) (bpO s)) := by
 obtain ⟨o, hO⟩ : ∃ o, bpO s = o := ⟨_, rfl⟩
 rw [hO]
 unfold bpO at hO
 have p1 := lsplit_s s
 have hl0 := @ziK s
 have hl1 := @bp_lines s
 have hlen : ((spl s 10).map lnOf).length = cntB s 10 + 1 := qa3
 generalize (spl s 10).map lnOf = l at *
 generalize cntB s 10 = N at *
 generalize spO s = sp at *
 cases sp with
 | some x =>
  obtain ⟨n, e⟩ := x
  simp only [spR, spN] at p1
  refine fnI fun w0 A => ?_
  refine G [9] ?_
  refine cV p1 ?_
  refine G [14, 9, 0] ?_
  refine cX ?_ ?_ <;> intro h
  ·exact jc7
  have h1 : e = 0 := qz
  clear h
  subst h1
  dsimp only at hO
  rw [if_pos rfl] at hO
  subst hO
  refine G [9] ?_
  refine jfb (zeQ U135) ?_
  refine G [3] ?_
  refine zac (fun m st => st = St.of [(8, qm), (24, qd 0), (25, qd 0)] []) 0 ?_ ?_
  ·refine ⟨_, zae id _ _ ?_ ?_ rfl, rfl⟩
   ·exact jap
   ·exact trivial
  rintro m st rfl
  refine G [5] ?_
  refine cX ?_ ?_ <;> intro h
  ·cases h
  refine G [9, 9, 0] ?_
  exact yE
 | none =>
  obtain ⟨hs, hN⟩ := hl0 rfl
  have hl1 := hl1 hs
  simp only [spR, spN] at p1
  dsimp only at hO
  refine fnI fun w0 A => ?_
  refine G [9] ?_
  refine zay (fun _ => 15) (p1) rfl rfl func91 rfl rfl qw rfl rfl rfl qq rfl rfl rfl ?_
  refine G [8] ?_
  refine za7 (zcL (cs := l.flatMap lnC) 15 rfl) ?_
  refine G [4, 1, 1, 9, 0] ?_
  refine cX ?_ ?_ <;> intro h
  ·cases h
  refine jdD ?_
  refine zaK (zbF 8 100 107 5 rfl rfl) ?_
  refine G [8] ?_
  refine zac (fun m st => ∃ i : Nat, m + i = l.length ∧ (∀ q ∈ l.take i, rdE q = 0) ∧ st = St.of [(8, .row 100), (23, ql l.length 2 (l.flatMap lnC)), (24, qd l.length), (25, qd i)] [(100, .row 107 5 i (((l.take i).map rdS).flatMap SE.pv))]) l.length ?_ ?_
  ·exact jcu
  rintro m st ⟨i, hi, hf, rfl⟩
  refine G [5] ?_
  refine cX ?_ ?_ <;> intro h
  ·have hlt : i < l.length := qu
   clear h
   obtain ⟨p, hp⟩ := qo hlt
   have hch := zaj (f := lnC) (k := 2) (fun _ => rfl) hp
   have hle := zai (f := lnC) (k := 2) (fun _ => rfl) hlt
   have hpz := hl1 p (qbh hp)
   have hbad := @bdA_hit rdE p l i 0 hp hf
   have hok := takeL_ok hp hf
   have hnx := zia hp
   have hC := read_s p.1 p.2 qp
   rw [rdR_eq] at hC
   have hil : (((l.take i).map rdS).flatMap SE.pv).length = i * 5 := qah
   rw [Nat.zero_add] at hbad
   generalize rdE p = e at *
   generalize rdS p = r at *
   generalize ((l.take i).map rdS).flatMap SE.pv = T at *
   generalize hLL : l.flatMap lnC = L at *
   obtain ⟨k, v⟩ := p
   obtain ⟨rk, rt, rn, ra, rb⟩ := r
   change Fn prog _ [.agg [qc k, qc v]] (.tup [.agg [qd rk, qc rt, qd rn, qe ra, qd rb], qd e]) _ at hC
   refine G [10] ?_
   refine jfc (zad (Y := .agg [qc k, qc v]) sz139 rfl rfl (qbf rfl)) ?_
   refine G [4] ?_
   refine cV hC ?_
   refine G [13, 9, 0] ?_
   refine cX ?_ ?_ <;> intro h
   ·have h5 : e ≠ 0 := qz
    rw [hbad h5] at hO
    subst hO
    exact jcz
   have h5 : e = 0 := qz
   clear h
   refine G [4] ?_
   refine jfc (zag 42 U27 zdJ zc107 (qbe rfl) (qbe rfl) rfl rfl rfl rfl (qbe rfl)) ?_
   refine zab (zaq 43 U27 eo107 (zaS) qB qp rfl rfl) rfl rfl ⟨rfl, rfl, rfl, trivial⟩ ?_
   refine jdI ?_
   refine ⟨m - 1, qp, _, zae (fun _ => 43) _ _ ?_ ?_ rfl, i + 1, qp, hok h5, rfl⟩
   ·exact jap
   ·exact ⟨⟨by rw [hnx]; rfl, rfl⟩, trivial⟩
  exact jbJ
theorem zgg (s : ByteArray) : Fn prog 62 [qc s] (spR (bpO s)) (bpN (((spl s 10).map lnOf).map rdS) (bpO s)) := by
 obtain ⟨o, hO⟩ : ∃ o, bpO s = o := ⟨_, rfl⟩
 rw [hO]
 unfold bpO at hO
 have p1 := refLOf_s s
 have hl0 := @ziK s
 have hl1 := @bp_lines s
 have hlen : ((spl s 10).map lnOf).length = cntB s 10 + 1 := qa3
 generalize (spl s 10).map lnOf = l at *
 generalize cntB s 10 = N at *
 generalize spO s = sp at *
 cases sp with
 | some x =>
  obtain ⟨n, e⟩ := x
  simp only [spR, spN] at p1
  refine fnI fun w0 A => ?_
  refine G [9] ?_
  refine cV p1 ?_
  refine G [14, 9, 0] ?_
  refine cX ?_ ?_ <;> intro h
  ·exact jc7
  have h1 : e = 0 := qz
  clear h
  subst h1
  dsimp only at hO
  rw [if_pos rfl] at hO
  subst hO
  refine G [11] ?_
  refine zac (fun m st => st = St.of [(5, qm), (8, qm), (9, qd 0)] []) 0 ?_ ?_
  ·refine ⟨_, zae id _ _ ?_ ?_ rfl, rfl⟩
   ·exact jap
   ·exact trivial
  rintro m st rfl
  refine G [5] ?_
  refine jfb (zeQ U135) ?_
  refine G [2, 9, 0] ?_
  refine cX ?_ ?_ <;> intro h
  ·cases h
  refine G [9, 9, 0] ?_
  exact yE
 | none =>
  obtain ⟨hs, hN⟩ := hl0 rfl
  have hl1 := hl1 hs
  simp only [spR, spN] at p1
  dsimp only at hO
  refine fnI fun w0 A => ?_
  refine G [9] ?_
  refine zay (fun _ => 14) (p1) rfl rfl func94 rfl rfl qw rfl rfl rfl qq rfl rfl rfl ?_
  refine G [8] ?_
  refine za7 (zcL (cs := l.flatMap lnC) 14 rfl) ?_
  refine G [4, 1, 1, 9, 0] ?_
  refine cX ?_ ?_ <;> intro h
  ·cases h
  refine jdD ?_
  refine zaK (zbF 8 100 107 5 rfl rfl) ?_
  refine G [6] ?_
  refine zac (fun m st => ∃ i : Nat, m + i = l.length ∧ (∀ q ∈ l.take i, rdE q = 0) ∧ st = St.of [(5, ql l.length 2 (l.flatMap lnC)), (8, .row 100), (9, qd i)] [(100, .row 107 5 i (((l.take i).map rdS).flatMap SE.pv))]) l.length ?_ ?_
  ·exact jcu
  rintro m st ⟨i, hi, hf, rfl⟩
  refine jdQ ?_
  refine cX ?_ ?_ <;> intro h
  ·have hlt : i < l.length := qu
   clear h
   obtain ⟨p, hp⟩ := qo hlt
   have hch := zaj (f := lnC) (k := 2) (fun _ => rfl) hp
   have hle := zai (f := lnC) (k := 2) (fun _ => rfl) hlt
   have hpz := hl1 p (qbh hp)
   have hbad := @bdA_hit rdE p l i 0 hp hf
   have hok := takeL_ok hp hf
   have hnx := zia hp
   have hC := refRead_s p.1 p.2 qp
   rw [rdR_eq] at hC
   have hil : (((l.take i).map rdS).flatMap SE.pv).length = i * 5 := qah
   rw [Nat.zero_add] at hbad
   generalize rdE p = e at *
   generalize rdS p = r at *
   generalize ((l.take i).map rdS).flatMap SE.pv = T at *
   generalize hLL : l.flatMap lnC = L at *
   obtain ⟨k, v⟩ := p
   obtain ⟨rk, rt, rn, ra, rb⟩ := r
   change Fn prog _ [.agg [qc k, qc v]] (.tup [.agg [qd rk, qc rt, qd rn, qe ra, qd rb], qd e]) _ at hC
   refine G [9] ?_
   refine cV hC ?_
   refine G [13, 9, 0] ?_
   refine cX ?_ ?_ <;> intro h
   ·have h5 : e ≠ 0 := qz
    rw [hbad h5] at hO
    subst hO
    exact jcz
   have h5 : e = 0 := qz
   clear h
   refine G [4] ?_
   refine jfc (zag 43 U27 zdJ zc107 (qbe rfl) (qbe rfl) rfl rfl rfl rfl (qbe rfl)) ?_
   refine zab (zaq 44 U27 eo107 (zaS) qB qp rfl rfl) rfl rfl ⟨rfl, rfl, rfl, trivial⟩ ?_
   refine jdv ?_
   refine ⟨m - 1, qp, _, zae (fun _ => 44) _ _ ?_ ?_ rfl, i + 1, qp, hok h5, rfl⟩
   ·exact jap
   ·exact ⟨⟨by rw [hnx]; rfl, rfl⟩, trivial⟩
  exact jbJ
theorem begin_bad (c : CF) (ok : c.OK) (s : ByteArray) (h0 : cfE c ≠ 0) : Fn prog 28 [.agg c.cells, qc s] (.tup [.agg [qf false, qm, qc ⟨#[]⟩, qd 0, qm, qc ⟨#[]⟩, qd 0], qd 0, qd (cfE c)]) [] := by
 have hC := zbu c ok
 exact jaU
theorem begin_bad2 (c : CF) (ok : c.OK) (s : ByteArray) (h0 : cfE c = 0) (n e : Int) (hs : bpO s = some (n, e)) (he : e ≠ 0) : Fn prog 28 [.agg c.cells, qc s] (.tup [.agg [qf false, qm, qc ⟨#[]⟩, qd 0, qm, qc ⟨#[]⟩, qd 0], qd n, qd e]) [] := by
 have hC := zbu c ok
 have hP := zjh s
 exact jaP
theorem begin_nil (c : CF) (ok : c.OK) (s : ByteArray) (h0 : cfE c = 0) (hs : bpO s = some (0, 0)) : Fn prog 28 [.agg c.cells, qc s] (.tup [.agg [qf true, qm, qc c.key, qd c.port, .row 0, qc ⟨#[]⟩, qd 0], qd 0, qd 0]) [(0, .row 48 5 c.ps.length (c.ps.flatMap PE.pv))] := by
 have hC := zbu c ok
 have hP := zjh s
 have hK := zcv c ok
 exact jaD
theorem begin_ok (c : CF) (ok : c.OK) (s : ByteArray) (h0 : cfE c = 0) (hs : bpO s = none) : Fn prog 28 [.agg c.cells, qc s] (.tup [.agg [qf true, .row 1, qc c.key, qd c.port, .row 0, qc ⟨#[]⟩, qd 0], qd 0, qd 0]) [(0, .row 48 5 c.ps.length (c.ps.flatMap PE.pv)), (1, .row 107 5 (((spl s 10).map lnOf).map rdS).length ((((spl s 10).map lnOf).map rdS).flatMap SE.pv))] := by
 have hC := zbu c ok
 have hP := zjh s
 have hK := zcv c ok
 exact jaB
theorem refBegin_bad (c : CF) (ok : c.OK) (s : ByteArray) (h0 : cfE c ≠ 0) : Fn prog 30 [.agg c.cells, qc s] (.tup [.agg [qf false, qm, qc ⟨#[]⟩, qd 0, qm, qc ⟨#[]⟩, qd 0], qd 0, qd (cfE c)]) [] := by
 have hC := zaP c ok
 exact jaU
theorem refBegin_bad2 (c : CF) (ok : c.OK) (s : ByteArray) (h0 : cfE c = 0) (n e : Int) (hs : bpO s = some (n, e)) (he : e ≠ 0) : Fn prog 30 [.agg c.cells, qc s] (.tup [.agg [qf false, qm, qc ⟨#[]⟩, qd 0, qm, qc ⟨#[]⟩, qd 0], qd n, qd e]) [] := by
 have hC := zaP c ok
 have hP := zgg s
 exact jaP
theorem refBegin_nil (c : CF) (ok : c.OK) (s : ByteArray) (h0 : cfE c = 0) (hs : bpO s = some (0, 0)) : Fn prog 30 [.agg c.cells, qc s] (.tup [.agg [qf true, qm, qc c.key, qd c.port, .row 0, qc ⟨#[]⟩, qd 0], qd 0, qd 0]) [(0, .row 48 5 c.ps.length (c.ps.flatMap PE.pv))] := by
 have hC := zaP c ok
 have hP := zgg s
 have hK := zeG c ok
 exact jaD
theorem refBegin_ok (c : CF) (ok : c.OK) (s : ByteArray) (h0 : cfE c = 0) (hs : bpO s = none) : Fn prog 30 [.agg c.cells, qc s] (.tup [.agg [qf true, .row 1, qc c.key, qd c.port, .row 0, qc ⟨#[]⟩, qd 0], qd 0, qd 0]) [(0, .row 48 5 c.ps.length (c.ps.flatMap PE.pv)), (1, .row 107 5 (((spl s 10).map lnOf).map rdS).length ((((spl s 10).map lnOf).map rdS).flatMap SE.pv))] := by
 have hC := zaP c ok
 have hP := zgg s
 have hK := zeG c ok
 exact jaB
theorem bpO_some {s : ByteArray} {n e : Int} (h : bpO s = some (n, e)) : e ≠ 0 ∨ (n = 0 ∧ e = 0) := by
 by_cases he : e = 0
 ·right
  refine ⟨?_, he⟩
  subst he
  unfold bpO at h
  cases hq : spO s with
  | some x =>
   rw [hq] at h
   obtain ⟨a, b⟩ := x
   dsimp only at h
   by_cases hb : b = 0
   ·rw [if_pos hb] at h; simp at h; exact h.symm
   ·rw [if_neg hb] at h; simp at h; exact absurd h.2 hb
  | none =>
   rw [hq] at h
   dsimp only at h
   exfalso
   have : ∀ (l : List LnP) (k : Nat), bdA rdE l k ≠ some (n, 0) := by
    intro l
    induction l with
    | nil => intro k hk; cases hk
    | cons a l ih =>
     intro k hk
     unfold bdA at hk
     split at hk
     ·rename_i h2; simp at hk; exact h2 hk.2
     ·exact ih _ hk
   exact this _ _ h
 ·exact .inl he
section
variable {P : Program} {d : Option Tmp} {ty : TypeId} {pos : String} {af : Array Edge} {g : Option (Nat × Bool)}
theorem a_sgtrV {xt yt : TypeId} {x y : Operand} {s t : ByteArray} {c : Bool} (h : (!(sLt s t || decide (s = t))) = c) : AOp P ⟨d, .binOp .gtr xt x y yt, ty, pos, af, g⟩ [qc s, qc t] [] [] (qf c) := by
 subst h
 exact a_sgtr
end
def bk {α : Type} (g : α → Bool) (l : List α) : Nat → Nat
 | 0 => 0
 | k + 1 => match l[k]? with
  | some x => if g x then bk g l k else k + 1
  | none => k + 1
theorem bk_le {α : Type} (g : α → Bool) (l : List α) : ∀ k, bk g l k ≤ k
 | 0 => Nat.le_refl _
 | k + 1 => by
  have := bk_le g l k
  unfold bk
  split
  ·split <;> omega
  ·omega
theorem bk_yes {α : Type} {g : α → Bool} {l : List α} {k : Nat} {x : α} (h : l[k]? = some x) (hg : g x = true) : bk g l (k + 1) = bk g l k := by
 exact jdj
theorem bk_no {α : Type} {g : α → Bool} {l : List α} {k : Nat} {x : α} (h : l[k]? = some x) (hg : g x = false) : bk g l (k + 1) = k + 1 := by
 exact jdj
def insE {α : Type} (gt : α → α → Bool) (out : List α) (p : α) : List α := out.take (bk (fun x => gt x p) out out.length) ++ p :: out.drop (bk (fun x => gt x p) out out.length)
def zcK {α : Type} (gt : α → α → Bool) (l : List α) : List α := l.foldl (insE gt) []
theorem insE_len {α : Type} (gt : α → α → Bool) (out : List α) (p : α) : (insE gt out p).length = out.length + 1 := by
 have := bk_le (fun x => gt x p) out out.length
 unfold insE
 rw [qbg, qbs, List.length_take, qby]
 omega
theorem zf9 {α : Type} (gt : α → α → Bool) (l : List α) (i : Nat) (x : α) (h : l[i]? = some x) : zcK gt (l.take (i + 1)) = insE gt (zcK gt (l.take i)) x := by
 obtain ⟨h1, h2⟩ := qbl.1 h
 unfold zcK
 rw [qbn h1, h2, qco]
 rfl
theorem foldE_len {α : Type} (gt : α → α → Bool) : ∀ (l out : List α), (l.foldl (insE gt) out).length = out.length + l.length
 | [], out => rfl
 | x :: l, out => by rw [List.foldl_cons, foldE_len gt l, insE_len, qbs]; omega
theorem zhn {α : Type} (gt : α → α → Bool) (l : List α) : (zcK gt l).length = l.length := by
 unfold zcK
 rw [foldE_len]
 simp
def gtP (p q : PE) : Bool := !(sLt p.key q.key || decide (p.key = q.key))
def gtN (m n : NtP) : Bool := decide (0 < zbI m.1 m.2 n.1 n.2)
theorem sortedP_s (l : List PE) (hn : l.length ≤ 1048576) : Fn Tryz.prog 97 [ql l.length 5 (l.flatMap PE.pv)] (.row 0) [(0, .row 48 5 l.length ((zcK gtP l).flatMap PE.pv))] := by
 refine fnI fun w0 A => ?_
 refine G [16] ?_
 refine zaK (zbF 3 100 48 5 rfl rfl) ?_
 refine zac (fun m st => ∃ i : Nat, m + i = l.length ∧ st = St.of [(3, .row 100), (8, ql l.length 5 (l.flatMap PE.pv)), (9, .p (.v (.int .i64 l.length))), (10, .p (.v (.int .i64 i)))] [(100, .row 48 5 i ((zcK gtP (l.take i)).flatMap PE.pv))]) l.length ?_ ?_
 ·exact jcE
 rintro m st ⟨i, hi, rfl⟩
 refine G [5] ?_
 refine cX ?_ ?_ <;> intro h
 ·have hlt : i < l.length := qu
  clear h
  obtain ⟨p, hp⟩ := qo hlt
  have hch := zaj (f := PE.pv) (k := 5) (fun _ => rfl) hp
  have hle := zai (f := PE.pv) (k := 5) (fun _ => rfl) hlt
  have hnext := zf9 gtP l i p hp
  have hol : (zcK gtP (l.take i)).length = i := by rw [zhn, List.length_take]; omega
  generalize zcK gtP (l.take i) = out at *
  have hcl : (out.flatMap PE.pv).length = i * 5 := by rw [zap (f := PE.pv) (k := 5) (fun _ => rfl), hol]
  have hbl0 := bk_le (fun x => gtP x p) out out.length
  have hbl := hbl0
  rw [hol] at hbl
  have hins : (insE gtP out p).flatMap PE.pv = (out.flatMap PE.pv).take (bk (fun x => gtP x p) out out.length * 5) ++ PE.pv p ++ (out.flatMap PE.pv).drop (bk (fun x => gtP x p) out out.length * 5) := by
   unfold insE
   have h1 : ((out.take (bk (fun x => gtP x p) out out.length)).flatMap PE.pv).length = bk (fun x => gtP x p) out out.length * 5 := by rw [zap (f := PE.pv) (k := 5) (fun _ => rfl), List.length_take]; congr 1; omega
   have h2 : out.flatMap PE.pv = (out.take (bk (fun x => gtP x p) out out.length)).flatMap PE.pv ++ (out.drop (bk (fun x => gtP x p) out out.length)).flatMap PE.pv := qaa
   exact jcN
  rw [hol] at hins
  have hx : ∀ k, (hk : k < i) → ((out.flatMap PE.pv).drop (k * 5)).take 5 = PE.pv (out[k]'qp) := fun k hk => zaj (f := PE.pv) (k := 5) (fun _ => rfl) (List.getElem?_eq_getElem qp)
  obtain ⟨pk, sh, ep, al, nn⟩ := p
  generalize hL : l.flatMap PE.pv = L at *
  refine G [8] ?_
  refine jdG ?_
  refine G [9] ?_
  refine zeC (St.of [(3, .row 100), (5, .ref 5 0), (6, .p (.v (.int .i64 (bk (fun x => gtP x ⟨pk, sh, ep, al, nn⟩) out i : Nat)))), (8, ql l.length 5 L), (9, .p (.v (.int .i64 l.length))), (10, .p (.v (.int .i64 i)))] [(100, .row 48 5 i (out.flatMap PE.pv)), (5, .box 48 [.p (.v (.string pk)), .p (.v (.string sh)), .p (.v (.string ep)), .p (.v (.int .i64 al)), ql nn.length 2 (nn.flatMap ntC)])]) ?_ ?_
  ·refine zac (fun m2 st => m2 ≤ i ∧ bk (fun x => gtP x ⟨pk, sh, ep, al, nn⟩) out m2 = bk (fun x => gtP x ⟨pk, sh, ep, al, nn⟩) out i ∧ st = St.of [(3, .row 100), (5, .ref 5 0), (6, .p (.v (.int .i64 m2))), (8, ql l.length 5 L), (9, .p (.v (.int .i64 l.length))), (10, .p (.v (.int .i64 i)))] [(100, .row 48 5 i (out.flatMap PE.pv)), (5, .box 48 [.p (.v (.string pk)), .p (.v (.string sh)), .p (.v (.string ep)), .p (.v (.int .i64 al)), ql nn.length 2 (nn.flatMap ntC)])]) i ?_ ?_
   ·refine ⟨_, zae id _ _ ?_ ?_ rfl, Nat.le_refl _, rfl, rfl⟩
    ·exact jap
    ·exact ja5
   rintro m2 st ⟨hm2, hbk, rfl⟩
   cases m2 with
   | zero =>
    have h0 : bk (fun x => gtP x ⟨pk, sh, ep, al, nn⟩) out i = 0 := hbk.symm
    rw [h0]
    refine G [4, 3, 14, 9, 0] ?_
    exact jaw
   | succ k =>
    have hk2 := hx k qp
    have hat : out[k]? = some (out[k]'qp) := List.getElem?_eq_getElem qp
    have hcle := zai (f := PE.pv) (k := 5) (fun _ => rfl) (l := out) (i := k) qp
    have hk : (out.flatMap PE.pv)[k * 5 + 0]? = some (.v (.string (out[k]'qp).key)) := by
     have := congrArg (fun x => x[0]?) hk2
     rw [qbO, qbN] at this
     simpa [PE.pv] using this
    generalize hxx : (out[k]'qp) = x at *
    rcases hg : gtP x ⟨pk, sh, ep, al, nn⟩ with _ | _
    ·have hb2 := bk_no (g := fun x => gtP x ⟨pk, sh, ep, al, nn⟩) hat hg
     rw [hbk] at hb2
     rw [hb2]
     refine G [4, 4, 3] ?_
     refine zaa (zgD (show IntKind.i64.wrap (((k + 1 : Nat) : Int) - 1) = ((k : Nat) : Int) by rw [qbM _ (by omega)]; omega)) rfl rfl ?_
     refine G [2] ?_
     refine jfc (zbC U9 rfl hk) ?_
     refine G [2] ?_
     refine jfb (a_sgtrV (c := false) hg) ?_
     refine G [4, 9, 0] ?_
     exact zae id _ _ qt qt rfl
    ·have hb2 := bk_yes (g := fun x => gtP x ⟨pk, sh, ep, al, nn⟩) hat hg
     refine G [4, 4, 3] ?_
     refine zaa (zgD (show IntKind.i64.wrap (((k + 1 : Nat) : Int) - 1) = ((k : Nat) : Int) by rw [qbM _ (by omega)]; omega)) rfl rfl ?_
     refine G [2] ?_
     refine jfc (zbC U9 rfl hk) ?_
     refine G [2] ?_
     refine jfb (a_sgtrV (c := true) hg) ?_
     refine G [7] ?_
     refine zaa (zgD (show IntKind.i64.wrap (((k + 1 : Nat) : Int) - 1) = ((k : Nat) : Int) by rw [qbM _ (by omega)]; omega)) rfl rfl ?_
     refine G [2, 9, 0] ?_
     refine ⟨k, qp, _, zae id _ _ ?_ ?_ rfl, qp, by rw [← hb2]; exact hbk, rfl⟩
     ·exact jap
     ·exact ja5
  clear hx
  generalize bk (fun x => gtP x ⟨pk, sh, ep, al, nn⟩) out i = k at *
  generalize out.flatMap PE.pv = O at *
  change _ = O.take (k * 5) ++ [.v (.string pk), .v (.string sh), .v (.string ep), .v (.int .i64 al), .sl nn.length 2 (nn.flatMap ntC)] ++ O.drop (k * 5) at hins
  have ht1 : (O.take (k * 5)).length = k * 5 := qN
  have hdr : (O.drop (k * 5)).take ((i - k) * 5) = O.drop (k * 5) := qbr qay
  obtain ⟨O2, hO2⟩ : ∃ O2, (insE gtP out ⟨pk, sh, ep, al, nn⟩).flatMap PE.pv = O2 := ⟨_, rfl⟩
  rw [hO2] at hins
  refine G [2] ?_
  refine jfc (za5 31 U22 sz48) ?_
  refine G [2] ?_
  refine zab (zdy (L := none) (H := (some (_, _))) U22 sz48 rfl ⟨qp, rfl⟩ qp qp (show Int.toNat (k : Int) - 0 = k by omega) rfl) rfl rfl ⟨rfl, trivial⟩ ?_
  refine zab (zaq 35 U22 eo48 (zf7 qp rfl) qB qp (show 0 + k = k by omega) (show [] ++ (O.drop (0 * 5)).take (k * 5) = O.take (k * 5) by simp)) rfl rfl ⟨rfl, rfl, rfl, trivial⟩ ?_
  refine G [6] ?_
  refine jfc (zag 38 U22 sz48 zc48 (qbe rfl) (qbe rfl) rfl rfl rfl rfl (qbe rfl)) ?_
  refine zab (zaq 39 U22 eo48 (zaS) qB qp rfl rfl) rfl rfl ⟨rfl, rfl, rfl, trivial⟩ ?_
  refine G [6] ?_
  refine zab (zdy (L := (some (_, _))) (H := none) U22 sz48 ⟨qp, rfl⟩ rfl qp qp (show i - Int.toNat (k : Int) = i - k by omega) (show Int.toNat (k : Int) * 5 = k * 5 by rw [qbx])) rfl rfl ⟨rfl, trivial⟩ ?_
  refine zab (zaq 44 U22 eo48 (zf7 qp rfl) qB qp (show k + 1 + (i - k) = i + 1 by omega) (show (O.take (k * 5) ++ [.v (.string pk), .v (.string sh), .v (.string ep), .v (.int .i64 al), .sl nn.length 2 (nn.flatMap ntC)]) ++ (O.drop (k * 5)).take ((i - k) * 5) = O2 by rw [hdr]; exact hins.symm)) rfl rfl ⟨rfl, rfl, rfl, trivial⟩ ?_
  refine jdI ?_
  refine ⟨m - 1, qp, _, zae (fun o => bif Nat.beq o 100 then 44 else o) [(3, .row 100), (8, ql l.length 5 L), (9, .p (.v (.int .i64 l.length))), (10, .p (.v (.int .i64 (i + 1 : Nat))))] [(100, .row 48 5 (i + 1) O2)] ?_ ?_ rfl, i + 1, qp, by rw [hnext, hO2]⟩
  ·exact jap
  ·exact ja3
 exact jbf
theorem sortedN_s (l : List NtP) (hn : l.length ≤ 1048576) : Fn Tryz.prog 98 [ql l.length 2 (l.flatMap ntC)] (.row 0) [(0, .row 82 2 l.length ((zcK gtN l).flatMap ntC))] := by
 refine fnI fun w0 A => ?_
 refine G [16] ?_
 refine zaK (zbF 3 100 82 2 rfl rfl) ?_
 refine zac (fun m st => ∃ i : Nat, m + i = l.length ∧ st = St.of [(3, .row 100), (8, ql l.length 2 (l.flatMap ntC)), (9, .p (.v (.int .i64 l.length))), (10, .p (.v (.int .i64 i)))] [(100, .row 82 2 i ((zcK gtN (l.take i)).flatMap ntC))]) l.length ?_ ?_
 ·exact jcE
 rintro m st ⟨i, hi, rfl⟩
 refine G [5] ?_
 refine cX ?_ ?_ <;> intro h
 ·have hlt : i < l.length := qu
  clear h
  obtain ⟨p, hp⟩ := qo hlt
  have hch := zaj (f := ntC) (k := 2) (fun _ => rfl) hp
  have hle := zai (f := ntC) (k := 2) (fun _ => rfl) hlt
  have hnext := zf9 gtN l i p hp
  have hol : (zcK gtN (l.take i)).length = i := by rw [zhn, List.length_take]; omega
  generalize zcK gtN (l.take i) = out at *
  have hcl : (out.flatMap ntC).length = i * 2 := by rw [zap (f := ntC) (k := 2) (fun _ => rfl), hol]
  have hbl0 := bk_le (fun x => gtN x p) out out.length
  have hbl := hbl0
  rw [hol] at hbl
  have hins : (insE gtN out p).flatMap ntC = (out.flatMap ntC).take (bk (fun x => gtN x p) out out.length * 2) ++ ntC p ++ (out.flatMap ntC).drop (bk (fun x => gtN x p) out out.length * 2) := by
   unfold insE
   have h1 : ((out.take (bk (fun x => gtN x p) out out.length)).flatMap ntC).length = bk (fun x => gtN x p) out out.length * 2 := by rw [zap (f := ntC) (k := 2) (fun _ => rfl), List.length_take]; congr 1; omega
   have h2 : out.flatMap ntC = (out.take (bk (fun x => gtN x p) out out.length)).flatMap ntC ++ (out.drop (bk (fun x => gtN x p) out out.length)).flatMap ntC := qaa
   exact jcN
  rw [hol] at hins
  have hx : ∀ k, (hk : k < i) → ((out.flatMap ntC).drop (k * 2)).take 2 = ntC (out[k]'qp) := fun k hk => zaj (f := ntC) (k := 2) (fun _ => rfl) (List.getElem?_eq_getElem qp)
  have hOr := fun m : NtP => nOrd_s m.1 m.2 p.1 p.2
  obtain ⟨na, nb⟩ := p
  generalize hL : l.flatMap ntC = L at *
  refine G [8] ?_
  refine jfc (zad (Y := .agg [.p (.v (.int .u32 na)), .p (.v (.int .i64 nb))]) sz82 rfl rfl (qbf rfl)) ?_
  refine G [9] ?_
  refine zeC (St.of [(3, .row 100), (5, .ref 5 0), (6, .p (.v (.int .i64 (bk (fun x => gtN x ⟨na, nb⟩) out i : Nat)))), (8, ql l.length 2 L), (9, .p (.v (.int .i64 l.length))), (10, .p (.v (.int .i64 i)))] [(100, .row 82 2 i (out.flatMap ntC)), (5, .box 82 [.p (.v (.int .u32 na)), .p (.v (.int .i64 nb))])]) ?_ ?_
  ·refine zac (fun m2 st => m2 ≤ i ∧ bk (fun x => gtN x ⟨na, nb⟩) out m2 = bk (fun x => gtN x ⟨na, nb⟩) out i ∧ st = St.of [(3, .row 100), (5, .ref 5 0), (6, .p (.v (.int .i64 m2))), (8, ql l.length 2 L), (9, .p (.v (.int .i64 l.length))), (10, .p (.v (.int .i64 i)))] [(100, .row 82 2 i (out.flatMap ntC)), (5, .box 82 [.p (.v (.int .u32 na)), .p (.v (.int .i64 nb))])]) i ?_ ?_
   ·refine ⟨_, zae id _ _ ?_ ?_ rfl, Nat.le_refl _, rfl, rfl⟩
    ·exact jap
    ·exact ja5
   rintro m2 st ⟨hm2, hbk, rfl⟩
   cases m2 with
   | zero =>
    have h0 : bk (fun x => gtN x ⟨na, nb⟩) out i = 0 := hbk.symm
    rw [h0]
    refine G [4, 3, 13, 9, 0] ?_
    exact jaw
   | succ k =>
    have hk2 := hx k qp
    have hat : out[k]? = some (out[k]'qp) := List.getElem?_eq_getElem qp
    have hcle := zai (f := ntC) (k := 2) (fun _ => rfl) (l := out) (i := k) qp
    have hk := hk2
    have hO := hOr (out[k]'qp)
    generalize hxx : (out[k]'qp) = x at *
    rcases hg : gtN x ⟨na, nb⟩ with _ | _
    ·have hb2 := bk_no (g := fun x => gtN x ⟨na, nb⟩) hat hg
     rw [hbk] at hb2
     rw [hb2]
     refine G [4, 4, 3] ?_
     refine zaa (zgD (show IntKind.i64.wrap (((k + 1 : Nat) : Int) - 1) = ((k : Nat) : Int) by rw [qbM _ (by omega)]; omega)) rfl rfl ?_
     refine jeS ?_
     refine zaa (a_gtrV (c := false) (by simpa [gtN] using hg)) rfl rfl ?_
     refine G [4, 9, 0] ?_
     exact zae id _ _ qt qt rfl
    ·have hb2 := bk_yes (g := fun x => gtN x ⟨na, nb⟩) hat hg
     refine G [4, 4, 3] ?_
     refine zaa (zgD (show IntKind.i64.wrap (((k + 1 : Nat) : Int) - 1) = ((k : Nat) : Int) by rw [qbM _ (by omega)]; omega)) rfl rfl ?_
     refine jeS ?_
     refine zaa (a_gtrV (c := true) (by simpa [gtN] using hg)) rfl rfl ?_
     refine G [7] ?_
     refine zaa (zgD (show IntKind.i64.wrap (((k + 1 : Nat) : Int) - 1) = ((k : Nat) : Int) by rw [qbM _ (by omega)]; omega)) rfl rfl ?_
     refine G [2, 9, 0] ?_
     refine ⟨k, qp, _, zae id _ _ ?_ ?_ rfl, qp, by rw [← hb2]; exact hbk, rfl⟩
     ·exact jap
     ·exact ja5
  clear hx
  generalize bk (fun x => gtN x ⟨na, nb⟩) out i = k at *
  generalize out.flatMap ntC = O at *
  change _ = O.take (k * 2) ++ [.v (.int .u32 na), .v (.int .i64 nb)] ++ O.drop (k * 2) at hins
  have ht1 : (O.take (k * 2)).length = k * 2 := qN
  have hdr : (O.drop (k * 2)).take ((i - k) * 2) = O.drop (k * 2) := qbr qay
  obtain ⟨O2, hO2⟩ : ∃ O2, (insE gtN out ⟨na, nb⟩).flatMap ntC = O2 := ⟨_, rfl⟩
  rw [hO2] at hins
  refine G [2] ?_
  refine jfc (za5 30 U46 sz82) ?_
  refine G [2] ?_
  refine zab (zdy (L := none) (H := (some (_, _))) U46 sz82 rfl ⟨qp, rfl⟩ qp qp (show Int.toNat (k : Int) - 0 = k by omega) rfl) rfl rfl ⟨rfl, trivial⟩ ?_
  refine zab (zaq 34 U46 eo82 (zf7 qp rfl) qB qp (show 0 + k = k by omega) (show [] ++ (O.drop (0 * 2)).take (k * 2) = O.take (k * 2) by simp)) rfl rfl ⟨rfl, rfl, rfl, trivial⟩ ?_
  refine G [6] ?_
  refine jfc (zag 37 U46 sz82 zc82 (qbe rfl) (qbe rfl) rfl rfl rfl rfl (qbe rfl)) ?_
  refine zab (zaq 38 U46 eo82 (zaS) qB qp rfl rfl) rfl rfl ⟨rfl, rfl, rfl, trivial⟩ ?_
  refine G [6] ?_
  refine zab (zdy (L := (some (_, _))) (H := none) U46 sz82 ⟨qp, rfl⟩ rfl qp qp (show i - Int.toNat (k : Int) = i - k by omega) (show Int.toNat (k : Int) * 2 = k * 2 by rw [qbx])) rfl rfl ⟨rfl, trivial⟩ ?_
  refine zab (zaq 43 U46 eo82 (zf7 qp rfl) qB qp (show k + 1 + (i - k) = i + 1 by omega) (show (O.take (k * 2) ++ [.v (.int .u32 na), .v (.int .i64 nb)]) ++ (O.drop (k * 2)).take ((i - k) * 2) = O2 by rw [hdr]; exact hins.symm)) rfl rfl ⟨rfl, rfl, rfl, trivial⟩ ?_
  refine jdI ?_
  refine ⟨m - 1, qp, _, zae (fun o => bif Nat.beq o 100 then 43 else o) [(3, .row 100), (8, ql l.length 2 L), (9, .p (.v (.int .i64 l.length))), (10, .p (.v (.int .i64 (i + 1 : Nat))))] [(100, .row 82 2 (i + 1) O2)] ?_ ?_ rfl, i + 1, qp, by rw [hnext, hO2]⟩
  ·exact jap
  ·exact ja3
 exact jbf
theorem fm_push {α β : Type} (f : α → List β) (F : List α) (x : α) (L : List α) : (F ++ x :: L).flatMap f = F.flatMap f ++ (f x ++ L.flatMap f) := by
 simp [qbD]
theorem fm_set {α β : Type} {f : α → List β} {k : Nat} (hf : ∀ x, (f x).length = k) (F : List α) (y x : α) (L : List α) : setR ((F ++ y :: L).flatMap f) (F.length * k) (f x) = ((F ++ [x]) ++ L).flatMap f := by
 have h1 : (F.flatMap f).length = F.length * k := zap hf F
 rw [fm_push]
 unfold setR
 rw [← h1, qcp, hf, ← hf y, qbB]
 rw [show F.flatMap f ++ (f y ++ L.flatMap f) = (F.flatMap f ++ f y) ++ L.flatMap f by rw [qbB]]
 rw [show (F.flatMap f).length + (f y).length = (F.flatMap f ++ f y).length by rw [qbg]]
 rw [qcO]
 simp [qbD]
theorem setR_head {α : Type} {l vs : List α} {d : Nat} (h : d ≤ l.length) : (setR l d vs).take d = l.take d := by
 unfold setR
 rw [qbB, qbH (by rw [List.length_take]; omega), qcH, Nat.min_self]
theorem drop_at {α : Type} {l : List α} {i : Nat} (h : i < l.length) : l.drop i = l[i] :: l.drop (i + 1) := (qbY h)
theorem zfV {α : Type} (q : α → Bool) {l : List α} {j : Nat} (h : j < l.length) : (l.take (j + 1)).filter q = (l.take j).filter q ++ (if q l[j] then [l[j]] else []) := by
 rw [qbn h, qcA]
 congr 1
 cases hq : q l[j] <;> simp [List.filter, hq]
theorem idx_not {α : Type} {q : α → Bool} {l : List α} (h : ¬ l.findIdx q < l.length) : ∀ x ∈ l, q x = false := fun x hx => by
 rcases hq : q x with _ | _
 ·rfl
 ·exact absurd (List.findIdx_lt_length_of_exists ⟨x, hx, hq⟩) h
theorem zgw {α : Type} {q : α → Bool} {l : List α} (h : ∀ x ∈ l, q x = false) : l.filter (fun x => !q x) = l := qci.2 fun x hx => by simp [h x hx]
theorem zhP {α : Type} {q : α → Bool} {l : List α} (h : l.findIdx q < l.length) : (l.take (l.findIdx q + 1)).filter (fun x => !q x) = l.take (l.findIdx q) := by
 rw [zfV _ h]
 have h1 : q l[l.findIdx q] = true := List.findIdx_getElem
 rw [zgw]
 ·simp [h1]
 ·intro x hx
  obtain ⟨i, hi, rfl⟩ := qb5.1 hx
  rw [List.length_take] at hi
  rw [qcJ]
  have := List.not_of_lt_findIdx (p := q) (xs := l) (i := i) qp
  simpa using this
def fI {α : Type} (q : α → Bool) (l : List α) : Int := if l.findIdx q < l.length then l.findIdx q else -1
abbrev PK := ByteArray × Value × Value × Value × Value
def pkC (p : PK) : List PV := [qg p.1, .v p.2.1, .v p.2.2.1, .v p.2.2.2.1, .v p.2.2.2.2]
theorem clN_s (m n : NtP) : Fn prog 170 [.agg ((ntC m).map AV.p), .ptr (ntC n)] (qf (decide (m = n))) [] := by
 show Fn prog _ [.agg [qe m.1, qd m.2], .ptr [qi n.1, qh n.2]] _ _
 refine fnI fun w0 A => ?_
 refine G [8] ?_
 refine zaa (zas U82 rfl sz82 qG (rfl)) rfl rfl ?_
 refine zaa (zbW U82 rfl rfl qr qr qr (c := decide (m = n)) (zdm ..)) rfl rfl ?_
 exact jbm
theorem clP_s (p : PK) (k : ByteArray) : Fn prog 132 [.agg ((pkC p).map AV.p), .ptr [qg k]] (qf (decide (p.1 = k))) [] := by
 show Fn prog _ [.agg [qc p.1, .p (.v p.2.1), .p (.v p.2.2.1), .p (.v p.2.2.2.1), .p (.v p.2.2.2.2)], .ptr [qg k]] _ _
 exact jbI
theorem ixN_s (l : List NtP) (n : NtP) (hn : l.length ≤ 1048576) : Fn prog 193 [ql l.length 2 (l.flatMap ntC), .fn 170 [.ptr (ntC n)]] (qd (fI (fun m => decide (m = n)) l)) [] := by
 have hq := fun x => clN_s x n
 generalize (ntC n) = K at *
 obtain ⟨q, hqd⟩ : ∃ q : NtP → Bool, q = fun m => decide (m = n) := ⟨_, rfl⟩
 rw [← hqd]
 replace hq : ∀ x, Fn prog 170 [.agg ((ntC x).map AV.p), .ptr K] (qf (q x)) [] := fun x => by rw [hqd]; exact hq x
 clear hqd
 refine fnI fun w0 A => ?_
 refine G [12] ?_
 refine zac (fun m st => ∃ i : Nat, m + i = l.length ∧ i ≤ l.findIdx q ∧ st = St.of [(0, ql l.length 2 (l.flatMap ntC)), (1, .fn 170 [.ptr K]), (7, qd l.length), (8, qd i)] []) l.length ?_ ?_
 ·exact jaG
 rintro m st ⟨i, hi, hb, rfl⟩
 refine G [5] ?_
 refine cX ?_ ?_ <;> intro h
 ·have hlt : i < l.length := qu
  clear h
  have hx : l[i]? = some (l[i]'qp) := List.getElem?_eq_getElem qp
  have hch := zaj (f := ntC) (k := 2) (fun _ => rfl) hx
  have hle := zai (f := ntC) (k := 2) (fun _ => rfl) hlt
  have hC := hq (l[i]'qp)
  have hyes : q (l[i]'qp) = true → fI q l = i := fun h => by
   exact jbO
  have hno : q (l[i]'qp) = false → i + 1 ≤ l.findIdx q := fun h => by
   exact jb9
  generalize hxx : (l[i]'qp) = x at *
  generalize l.flatMap ntC = L at *
  exact jbz
 exact jcP
theorem delN_s (l : List NtP) (n : NtP) (hn : l.length ≤ 1048576) : FnR prog 169 [.row 0, .fn 170 [.ptr (ntC n)]] [(0, .row 82 2 l.length (l.flatMap ntC))] (.row 1) [(1, .row 82 2 (l.filter (fun x => !(fun m => decide (m = n)) x)).length ((l.filter (fun x => !(fun m => decide (m = n)) x)).flatMap ntC))] := by
 have hI := ixN_s l n hn
 have hq := fun x => clN_s x n
 generalize (ntC n) = K at *
 obtain ⟨q, hqd⟩ : ∃ q : NtP → Bool, q = fun m => decide (m = n) := ⟨_, rfl⟩
 rw [← hqd] at hI ⊢
 replace hq : ∀ x, Fn prog 170 [.agg ((ntC x).map AV.p), .ptr K] (.p (.v (.bool (q x)))) [] := fun x => by rw [hqd]; exact hq x
 clear hqd
 unfold fI at hI
 have hL0 : (l.flatMap ntC).length = l.length * 2 := zap (f := ntC) (k := 2) (fun _ => rfl) l
 by_cases h0 : l.findIdx q < l.length
 ·rw [if_pos h0] at hI
  have hF0 := zhP h0
  generalize hi0 : l.findIdx q = i0 at *
  refine zdR func169 rfl (qbe rfl) fun w0 A => ?_
  refine G [8] ?_
  refine cV hI ?_
  refine G [6, 3, 11] ?_
  refine zac (fun m st => ∃ j i : Nat, ∃ F : List NtP, m + j = l.length ∧ F = (l.take j).filter (fun x => !q x) ∧ F.length = i ∧ i < j ∧ st = St.of [(0, .row 0), (1, .fn 170 [.ptr K]), (5, .p (.v (.int .i64 i))), (6, .p (.v (.int .i64 j)))] [(0, .row 82 2 l.length ((F ++ l.drop i).flatMap ntC))]) (l.length - (i0 + 1)) ?_ ?_
  ·refine ⟨_, zae id [(0, .row 0), (1, .fn 170 [.ptr K]), (5, .p (.v (.int .i64 i0))), (6, .p (.v (.int .i64 (i0 + 1 : Nat))))] [(0, .row 82 2 l.length (l.flatMap ntC))] ?_ ?_ rfl, i0 + 1, i0, l.take i0, qp, hF0.symm, by rw [List.length_take]; omega, qp, by rw [qbQ]⟩
   ·exact jap
   ·exact ja3
  rintro m st ⟨j, i, F, hm, hF, hFl, hij, rfl⟩
  refine jdQ ?_
  refine cX ?_ ?_ <;> intro h
  ·have hlt : j < l.length := qu
   clear h
   have hRl : (F ++ l.drop i).length = l.length := qaU
   have hx : (F ++ l.drop i)[j]? = some l[j] := by
    exact jcL
   have hch := zaj (f := ntC) (k := 2) (fun _ => rfl) hx
   have hle := zai (f := ntC) (k := 2) (fun _ => rfl) (l := F ++ l.drop i) (i := j) qp
   have hle2 := zai (f := ntC) (k := 2) (fun _ => rfl) (l := F ++ l.drop i) (i := i) qp
   have hset := fm_set (f := ntC) (k := 2) (fun _ => rfl) F (l[i]'qp) l[j] (l.drop (i + 1))
   rw [← drop_at (by omega), hFl] at hset
   have hC := hq l[j]
   have hFj := zfV (fun x => !q x) hlt
   rw [← hF] at hFj
   generalize hxx : (l[j]'qp) = x at *
   generalize hR : (F ++ l.drop i).flatMap ntC = R at *
   refine G [8] ?_
   refine zab (zeP U82 rfl sz82 qp (hch)) rfl rfl ⟨rfl, trivial⟩ ?_
   refine jfc (zaW 7 zr82 rfl) ?_
   refine jfc (zad (Y := .agg ((ntC x).map AV.p)) sz82 rfl rfl (qbf rfl)) ?_
   refine zaf ?_
   rcases hc : q x with _ | _
   ·rw [hc] at hC
    simp only [hc, Bool.not_false, if_true] at hFj
    refine G [4] ?_
    refine cK hC ?_
    refine G [9] ?_
    refine zab (zb3 (Y := .agg ((ntC x).map AV.p)) (ys := ntC x) sz82 rfl rfl rfl qp hset) rfl rfl ⟨rfl, trivial⟩ ?_
    refine G [11, 9, 0] ?_
    refine ⟨m - 1, qp, _, zae id [(0, .row 0), (1, .fn 170 [.ptr K]), (5, .p (.v (.int .i64 (i + 1 : Nat)))), (6, .p (.v (.int .i64 (j + 1 : Nat))))] [(0, .row 82 2 l.length (((F ++ [x]) ++ l.drop (i + 1)).flatMap ntC))] ?_ ?_ rfl, j + 1, i + 1, F ++ [x], qp, hFj.symm, by rw [qbg]; simp; omega, qp, rfl⟩
    ·exact jap
    ·exact ja3
   ·rw [hc] at hC
    simp only [hc, Bool.not_true, qbE, if_false, qbA] at hFj
    refine G [4] ?_
    refine cK hC ?_
    refine G [9, 9, 0] ?_
    refine ⟨m - 1, qp, _, zae id [(0, .row 0), (1, .fn 170 [.ptr K]), (5, .p (.v (.int .i64 i))), (6, .p (.v (.int .i64 (j + 1 : Nat))))] [(0, .row 82 2 l.length R)] ?_ ?_ rfl, j + 1, i, F, qp, hFj.symm, hFl, qp, by rw [hR]⟩
    ·exact jap
    ·exact ja3
  have hge : j = l.length := qu
  clear h
  have hF' : F = l.filter (fun x => !q x) := by rw [hF, hge, qbI]
  have hRl : ((F ++ l.drop i).flatMap ntC).length = l.length * 2 := by rw [zap (f := ntC) (k := 2) (fun _ => rfl), qbg, qby]; congr 1; omega
  have hFc : (F.flatMap ntC).length = i * 2 := by rw [zap (f := ntC) (k := 2) (fun _ => rfl), hFl]
  rw [← hF', hFl]
  obtain ⟨R, hR⟩ : ∃ R, (F ++ l.drop i).flatMap ntC = R := ⟨_, rfl⟩
  have hhead : R.take (i * 2) = F.flatMap ntC := by
   rw [← hR, qbD, ← hFc, qcp]
  rw [hR] at hRl ⊢
  refine G [2] ?_
  refine zaX (zen 0 rfl) ?_
  skip
  refine G [3] ?_
  refine zab (zbg (L := (some (_, _))) (H := none) U46 sz82 ⟨qp, rfl⟩ rfl qp qp rfl rfl) rfl rfl ⟨rfl, trivial⟩ ?_
  refine zab (a_clearRA (m := l.length - i) (size := 2) U46 zc82 rfl rfl qp qaJ rfl) rfl rfl ⟨rfl, trivial⟩ ?_
  refine G [5] ?_
  refine zab (zgT (o' := 41) (h := i) (H := some (.i64, (i : Int))) U46 sz82 ⟨qp, qC⟩ qp (zs := (F.flatMap ntC).map AV.p) qaj) rfl rfl ⟨rfl, rfl, trivial⟩ ?_
  refine G [2] ?_
  refine za7 (zc4 41 (cs := F.flatMap ntC) rfl) ?_
  refine zaA (yT (fun _ => 41) ?_ ?_)
  ·exact rfl
  ·exact ja3
 ·rw [if_neg h0] at hI
  have hall := idx_not h0
  rw [zgw hall]
  clear hq hall
  refine zdR func169 rfl (qbe rfl) fun w0 A => ?_
  exact jc9
theorem ixP_s (l : List PK) (k : ByteArray) (hn : l.length ≤ 1048576) : Fn prog 79 [ql l.length 5 (l.flatMap pkC), .fn 132 [.ptr ([PV.v (.string k)] : List PV)]] (qd (fI (fun p => decide (p.1 = k)) l)) [] := by
 have hq := fun x => clP_s x k
 generalize ([PV.v (.string k)] : List PV) = K at *
 obtain ⟨q, hqd⟩ : ∃ q : PK → Bool, q = fun p => decide (p.1 = k) := ⟨_, rfl⟩
 rw [← hqd]
 replace hq : ∀ x, Fn prog 132 [.agg ((pkC x).map AV.p), .ptr K] (qf (q x)) [] := fun x => by rw [hqd]; exact hq x
 clear hqd
 refine fnI fun w0 A => ?_
 refine G [12] ?_
 refine zac (fun m st => ∃ i : Nat, m + i = l.length ∧ i ≤ l.findIdx q ∧ st = St.of [(0, ql l.length 5 (l.flatMap pkC)), (1, .fn 132 [.ptr K]), (7, qd l.length), (8, qd i)] []) l.length ?_ ?_
 ·exact jaG
 rintro m st ⟨i, hi, hb, rfl⟩
 refine G [5] ?_
 refine cX ?_ ?_ <;> intro h
 ·have hlt : i < l.length := qu
  clear h
  have hx : l[i]? = some (l[i]'qp) := List.getElem?_eq_getElem qp
  have hch := zaj (f := pkC) (k := 5) (fun _ => rfl) hx
  have hle := zai (f := pkC) (k := 5) (fun _ => rfl) hlt
  have hC := hq (l[i]'qp)
  have hyes : q (l[i]'qp) = true → fI q l = i := fun h => by
   exact jbO
  have hno : q (l[i]'qp) = false → i + 1 ≤ l.findIdx q := fun h => by
   exact jb9
  generalize hxx : (l[i]'qp) = x at *
  generalize l.flatMap pkC = L at *
  exact jbz
 exact jcP
theorem delP_s (l : List PK) (k : ByteArray) (hn : l.length ≤ 1048576) : FnR prog 131 [.row 0, .fn 132 [.ptr ([PV.v (.string k)] : List PV)]] [(0, .row 48 5 l.length (l.flatMap pkC))] (.row 1) [(1, .row 48 5 (l.filter (fun x => !(fun p => decide (p.1 = k)) x)).length ((l.filter (fun x => !(fun p => decide (p.1 = k)) x)).flatMap pkC))] := by
 have hI := ixP_s l k hn
 have hq := fun x => clP_s x k
 generalize ([PV.v (.string k)] : List PV) = K at *
 obtain ⟨q, hqd⟩ : ∃ q : PK → Bool, q = fun p => decide (p.1 = k) := ⟨_, rfl⟩
 rw [← hqd] at hI ⊢
 replace hq : ∀ x, Fn prog 132 [.agg ((pkC x).map AV.p), .ptr K] (.p (.v (.bool (q x)))) [] := fun x => by rw [hqd]; exact hq x
 clear hqd
 unfold fI at hI
 have hL0 : (l.flatMap pkC).length = l.length * 5 := zap (f := pkC) (k := 5) (fun _ => rfl) l
 by_cases h0 : l.findIdx q < l.length
 ·rw [if_pos h0] at hI
  have hF0 := zhP h0
  generalize hi0 : l.findIdx q = i0 at *
  refine zdR func131 rfl (qbe rfl) fun w0 A => ?_
  refine G [8] ?_
  refine cV hI ?_
  refine G [6, 3, 11] ?_
  refine zac (fun m st => ∃ j i : Nat, ∃ F : List PK, m + j = l.length ∧ F = (l.take j).filter (fun x => !q x) ∧ F.length = i ∧ i < j ∧ st = St.of [(0, .row 0), (1, .fn 132 [.ptr K]), (5, .p (.v (.int .i64 i))), (6, .p (.v (.int .i64 j)))] [(0, .row 48 5 l.length ((F ++ l.drop i).flatMap pkC))]) (l.length - (i0 + 1)) ?_ ?_
  ·refine ⟨_, zae id [(0, .row 0), (1, .fn 132 [.ptr K]), (5, .p (.v (.int .i64 i0))), (6, .p (.v (.int .i64 (i0 + 1 : Nat))))] [(0, .row 48 5 l.length (l.flatMap pkC))] ?_ ?_ rfl, i0 + 1, i0, l.take i0, qp, hF0.symm, by rw [List.length_take]; omega, qp, by rw [qbQ]⟩
   ·exact jap
   ·exact ja3
  rintro m st ⟨j, i, F, hm, hF, hFl, hij, rfl⟩
  refine jdQ ?_
  refine cX ?_ ?_ <;> intro h
  ·have hlt : j < l.length := qu
   clear h
   have hRl : (F ++ l.drop i).length = l.length := qaU
   have hx : (F ++ l.drop i)[j]? = some l[j] := by
    exact jcL
   have hch := zaj (f := pkC) (k := 5) (fun _ => rfl) hx
   have hle := zai (f := pkC) (k := 5) (fun _ => rfl) (l := F ++ l.drop i) (i := j) qp
   have hle2 := zai (f := pkC) (k := 5) (fun _ => rfl) (l := F ++ l.drop i) (i := i) qp
   have hset := fm_set (f := pkC) (k := 5) (fun _ => rfl) F (l[i]'qp) l[j] (l.drop (i + 1))
   rw [← drop_at (by omega), hFl] at hset
   have hC := hq l[j]
   have hFj := zfV (fun x => !q x) hlt
   rw [← hF] at hFj
   generalize hxx : (l[j]'qp) = x at *
   generalize hR : (F ++ l.drop i).flatMap pkC = R at *
   refine G [8] ?_
   refine zab (zeP U48 rfl sz48 qp (hch)) rfl rfl ⟨rfl, trivial⟩ ?_
   refine jfc (zaW 7 zr48 rfl) ?_
   refine jfc (zad (Y := .agg ((pkC x).map AV.p)) sz48 rfl rfl (qbf rfl)) ?_
   refine zaf ?_
   rcases hc : q x with _ | _
   ·rw [hc] at hC
    simp only [hc, Bool.not_false, if_true] at hFj
    refine G [4] ?_
    refine cK hC ?_
    refine G [9] ?_
    refine zab (zb3 (Y := .agg ((pkC x).map AV.p)) (ys := pkC x) sz48 rfl rfl rfl qp hset) rfl rfl ⟨rfl, trivial⟩ ?_
    refine G [11, 9, 0] ?_
    refine ⟨m - 1, qp, _, zae id [(0, .row 0), (1, .fn 132 [.ptr K]), (5, .p (.v (.int .i64 (i + 1 : Nat)))), (6, .p (.v (.int .i64 (j + 1 : Nat))))] [(0, .row 48 5 l.length (((F ++ [x]) ++ l.drop (i + 1)).flatMap pkC))] ?_ ?_ rfl, j + 1, i + 1, F ++ [x], qp, hFj.symm, by rw [qbg]; simp; omega, qp, rfl⟩
    ·exact jap
    ·exact ja3
   ·rw [hc] at hC
    simp only [hc, Bool.not_true, qbE, if_false, qbA] at hFj
    refine G [4] ?_
    refine cK hC ?_
    refine G [9, 9, 0] ?_
    refine ⟨m - 1, qp, _, zae id [(0, .row 0), (1, .fn 132 [.ptr K]), (5, .p (.v (.int .i64 i))), (6, .p (.v (.int .i64 (j + 1 : Nat))))] [(0, .row 48 5 l.length R)] ?_ ?_ rfl, j + 1, i, F, qp, hFj.symm, hFl, qp, by rw [hR]⟩
    ·exact jap
    ·exact ja3
  have hge : j = l.length := qu
  clear h
  have hF' : F = l.filter (fun x => !q x) := by rw [hF, hge, qbI]
  have hRl : ((F ++ l.drop i).flatMap pkC).length = l.length * 5 := by rw [zap (f := pkC) (k := 5) (fun _ => rfl), qbg, qby]; congr 1; omega
  have hFc : (F.flatMap pkC).length = i * 5 := by rw [zap (f := pkC) (k := 5) (fun _ => rfl), hFl]
  rw [← hF', hFl]
  obtain ⟨R, hR⟩ : ∃ R, (F ++ l.drop i).flatMap pkC = R := ⟨_, rfl⟩
  have hhead : R.take (i * 5) = F.flatMap pkC := by
   rw [← hR, qbD, ← hFc, qcp]
  rw [hR] at hRl ⊢
  refine G [2] ?_
  refine zaX (zen 0 rfl) ?_
  skip
  refine G [3] ?_
  refine zab (zbg (L := (some (_, _))) (H := none) U22 sz48 ⟨qp, rfl⟩ rfl qp qp rfl rfl) rfl rfl ⟨rfl, trivial⟩ ?_
  refine zab (a_clearRA (m := l.length - i) (size := 5) U22 zc48 rfl rfl qp qaJ rfl) rfl rfl ⟨rfl, trivial⟩ ?_
  refine G [5] ?_
  refine zab (zgT (o' := 41) (h := i) (H := some (.i64, (i : Int))) U22 sz48 ⟨qp, qC⟩ qp (zs := (F.flatMap pkC).map AV.p) qaj) rfl rfl ⟨rfl, rfl, trivial⟩ ?_
  refine G [2] ?_
  refine za7 (zc4 41 (cs := F.flatMap pkC) rfl) ?_
  refine zaA (yT (fun _ => 41) ?_ ?_)
  ·exact rfl
  ·exact ja3
 ·rw [if_neg h0] at hI
  have hall := idx_not h0
  rw [zgw hall]
  clear hq hall
  refine zdR func131 rfl (qbe rfl) fun w0 A => ?_
  exact jc9
theorem setR2a {α : Type} {M X D : List α} {t : Nat} (h : M.length = t + X.length + D.length) : setR (setR M t X) (t + X.length) D = M.take t ++ X ++ D := by
 unfold setR
 have h1 : (M.take t).length = t := qN
 have h2 : (M.take t ++ X).length = t + X.length := by rw [qbg, h1]
 rw [show (M.take t ++ X ++ M.drop (t + X.length)).take (t + X.length) = M.take t ++ X by rw [← h2, qcp]]
 rw [qbS (by rw [qbg, h2, qby]; omega), qbA]
theorem setR2b {α : Type} {M X D : List α} {t : Nat} (h : M.length = t + X.length + D.length) : setR (setR M (t + X.length) D) t X = M.take t ++ X ++ D := by
 unfold setR
 have h1 : (M.take (t + X.length)).length = t + X.length := qN
 rw [show M.drop (t + X.length + D.length) = [] from qbS (by omega), qbA]
 have h3 : (M.take (t + X.length) ++ D).drop (t + X.length) = D := by
  have := qcO (l₁ := M.take (t + X.length)) (l₂ := D)
  rwa [h1] at this
 rw [h3]
 rw [qbH (by rw [h1]; omega), qcH, Nat.min_eq_left (by omega)]
theorem fm_ins {α β : Type} {f : α → List β} {k : Nat} (hf : ∀ x, (f x).length = k) (l : List α) (i : Nat) (x : α) (hi : i ≤ l.length) : (l.take i ++ x :: l.drop i).flatMap f = (l.flatMap f).take (i * k) ++ f x ++ (l.flatMap f).drop (i * k) := by
 have h1 : ((l.take i).flatMap f).length = i * k := by rw [zap hf, List.length_take, Nat.min_eq_left hi]
 have h2 : l.flatMap f = (l.take i).flatMap f ++ (l.drop i).flatMap f := qaa
 exact jcN
theorem insN_s (l : List NtP) (x : NtP) (i : Nat) (hi : i ≤ l.length) (hn : l.length ≤ 1048576) : FnR prog 172 [.row 0, qd i, .psl 1 0 1 2] [(0, .row 82 2 l.length (l.flatMap ntC)), (1, .box 82 ((ntC x).map AV.p))] (.row 2) [(2, .row 82 2 (l.length + 1) ((l.take i ++ x :: l.drop i).flatMap ntC))] := by
 have hL : (l.flatMap ntC).length = l.length * 2 := zap (f := ntC) (k := 2) (fun _ => rfl) l
 rw [fm_ins (f := ntC) (k := 2) (fun _ => rfl) l i x hi]
 generalize l.flatMap ntC = L at *
 generalize l.length = n at *
 refine zdR func172 rfl (qbe rfl) fun w0 A => ?_
 refine G [8] ?_
 refine zab (zdy (L := (some (_, _))) (H := none) U46 sz82 ⟨qp, rfl⟩ rfl qp qp rfl rfl) rfl rfl ⟨rfl, trivial⟩ ?_
 refine G [11, 3, 9] ?_
 by_cases hin : i = n
 ·subst hin
  refine G [5, 4, 2] ?_
  rw [qbr (by omega : L.length ≤ i * 2), qbS (by omega : L.length ≤ i * 2), qbA]
  refine G [4] ?_
  refine zab (zaq (cs := L) (ys := ntC x) 25 U46 eo82 (zf8 (cs := (ntC x).map AV.p) rfl (qbe rfl) rfl) qB qp rfl rfl) rfl rfl ⟨rfl, rfl, rfl, trivial⟩ ?_
  refine jdR ?_
  refine yT (fun _ => 25) ?_ ?_
  ·exact rfl
  ·exact ja3
 have hlt : i < n := qp
 refine G [5, 3, 2] ?_
 refine awp_openR 0 rfl fun c hc1 hc2 => ?_
 have hXl : ((ntC x).map AV.p).length = 2 := rfl
 have hDl : ((L.drop (i * 2)).map AV.p).length = (n - i) * 2 := qaF
 by_cases hcc : c < n + 1
 ·refine G [8] ?_
  refine jfc (zjr U46) ?_
  refine G [0, 4, 6] ?_
  refine zab (a_sliceC (h := i) (H := some (.i64, (i : Int))) U46 sz82 ⟨qp, qC⟩ qp) rfl rfl ⟨rfl, trivial⟩ ?_
  refine G [4] ?_
  refine zaa (zgD (c := ((n + 1 - i : Nat) : Int)) qaD) rfl rfl ?_
  refine zab (zgU (size := 2) (k := n + 1 - i) (q := n + 1) (zs := (L.take (i * 2)).map AV.p ++ List.replicate ((n + 1 - i) * 2) .any) 40 U46 U3 eo82 qp qp qp qp qB qp (by rw [List.map_take]) qp) rfl rfl ⟨rfl, rfl, trivial⟩ ?_
  refine G [2] ?_
  have hMl : ((L.take (i * 2)).map AV.p ++ List.replicate ((n + 1 - i) * 2) AV.any).length = i * 2 + ((ntC x).map AV.p).length + ((L.drop (i * 2)).map AV.p).length := by
   rw [hXl, hDl, qbg, qbu, List.length_take, List.length_replicate]
   omega
  have hset := setR2a hMl
  have hT0 : ((L.take (i * 2)).map AV.p ++ List.replicate ((n + 1 - i) * 2) AV.any).take (i * 2) = (L.take (i * 2)).map AV.p := by
   exact jcx
  rw [hT0, ← qbF, ← qbF] at hset
  generalize hM : (L.take (i * 2)).map AV.p ++ List.replicate ((n + 1 - i) * 2) AV.any = M at *
  refine G [4] ?_
  refine zab (zbg (L := (some (_, _))) (H := none) U46 sz82 ⟨qp, rfl⟩ rfl qp qp rfl rfl) rfl rfl ⟨rfl, trivial⟩ ?_
  refine jfb (zaF (r := .psl _ _ _ _)) ?_
  refine zab (zdA (q := 1) (size := 2) (ys := ntC x) U46 sz82 (srcQ (zf8 (cs := (ntC x).map AV.p) rfl (qbe rfl) rfl)) qp qp qp rfl) rfl rfl ⟨rfl, rfl, trivial⟩ ?_
  refine G [7] ?_
  refine zab (zbg (L := (some (_, _))) (H := none) U46 sz82 ⟨qp, rfl⟩ rfl qp qp rfl rfl) rfl rfl ⟨rfl, trivial⟩ ?_
  refine G [2] ?_
  refine zab (zbg (L := (some (_, _))) (H := none) U46 sz82 ⟨qp, rfl⟩ rfl qp qp rfl rfl) rfl rfl ⟨rfl, trivial⟩ ?_
  refine zab (zdA (q := n - i) (size := 2) (ys := L.drop (i * 2)) U46 sz82 (zfv qp qaJ qag) qp qp (by rw [zbx (by rw [hXl]; omega)]; omega) (es := setR (setR M (i * 2) ((ntC x).map AV.p)) (i * 2 + ((ntC x).map AV.p).length) ((L.drop (i * 2)).map AV.p)) qaR) rfl rfl ⟨rfl, rfl, trivial⟩ ?_
  refine G [6] ?_
  refine za7 (zc4 40 (cs := L.take (i * 2) ++ ntC x ++ L.drop (i * 2)) qa6) ?_
  refine zaA (zbA (yT (fun _ => 40) ?_ ?_))
  ·exact rfl
  ·exact ja3
 ·refine G [8] ?_
  refine jfc (zjr U46) ?_
  refine G [0, 3, 9] ?_
  refine zab (a_sliceUp (o' := 60) (h := n + 1) (H := some (.i64, ((n + 1 : Nat) : Int))) (zs := L.map AV.p ++ List.replicate (1 * 2) .any) U46 sz82 ⟨qp, qC⟩ qp qp (by rw [show n + 1 - n = 1 by omega])) rfl rfl ⟨rfl, rfl, trivial⟩ ?_
  refine G [2] ?_
  have hMl : (L.map AV.p ++ List.replicate (1 * 2) AV.any).length = i * 2 + ((ntC x).map AV.p).length + ((L.drop (i * 2)).map AV.p).length := by
   rw [hXl, hDl, qbg, qbu, List.length_replicate]
   omega
  have hset := setR2b hMl
  have hT0 : (L.map AV.p ++ List.replicate (1 * 2) AV.any).take (i * 2) = (L.take (i * 2)).map AV.p := by
   rw [qbH (by rw [qbu]; omega), List.map_take]
  have hD0 : ((L.map AV.p ++ List.replicate (1 * 2) AV.any).drop (i * 2)).take ((n - i) * 2) = (L.drop (i * 2)).map AV.p := by
   exact jcb
  rw [hT0, ← qbF, ← qbF] at hset
  generalize hM : L.map AV.p ++ List.replicate (1 * 2) AV.any = M at *
  refine G [8] ?_
  refine zab (zbg (L := (some (_, _))) (H := none) U46 sz82 ⟨qp, rfl⟩ rfl qp qp rfl rfl) rfl rfl ⟨rfl, trivial⟩ ?_
  refine zab (ziE (tR := 4) (size := 2) func194 qr rfl rfl qr U46 sz82 rfl qp qp qp) rfl rfl ⟨rfl, rfl, trivial⟩ ?_
  refine G [9] ?_
  refine zab (zbg (L := (some (_, _))) (H := none) U46 sz82 ⟨qp, rfl⟩ rfl qp qp rfl rfl) rfl rfl ⟨rfl, trivial⟩ ?_
  refine G [2] ?_
  refine zab (zbg (L := (some (_, _))) (H := none) U46 sz82 ⟨qp, rfl⟩ rfl qp qp rfl rfl) rfl rfl ⟨rfl, trivial⟩ ?_
  refine zab (zdA (q := n - i) (size := 2) (ys := L.drop (i * 2)) U46 sz82 (zfv qp qp hD0) qp qp qp (es := setR M (i * 2 + ((ntC x).map AV.p).length) ((L.drop (i * 2)).map AV.p)) qaR) rfl rfl ⟨rfl, rfl, trivial⟩ ?_
  refine G [5] ?_
  refine zab (zbg (L := (some (_, _))) (H := none) U46 sz82 ⟨qp, rfl⟩ rfl qp qp rfl rfl) rfl rfl ⟨rfl, trivial⟩ ?_
  refine jfb (zaF (r := .psl _ _ _ _)) ?_
  refine zab (zdA (q := 1) (size := 2) (ys := ntC x) U46 sz82 (srcQ (zf8 (cs := (ntC x).map AV.p) rfl (qbe rfl) rfl)) qp qp (by rw [zbx (by rw [hDl]; omega)]; omega) rfl) rfl rfl ⟨rfl, rfl, trivial⟩ ?_
  refine G [6] ?_
  refine za7 (zc4 60 (cs := L.take (i * 2) ++ ntC x ++ L.drop (i * 2)) qa6) ?_
  refine zaA (zbA (yT (fun _ => 60) ?_ ?_))
  ·exact rfl
  ·exact ja3
theorem insP_s (l : List PK) (x : PK) (i : Nat) (hi : i ≤ l.length) (hn : l.length ≤ 1048576) : FnR prog 168 [.row 0, qd i, .psl 1 0 1 5] [(0, .row 48 5 l.length (l.flatMap pkC)), (1, .box 48 ((pkC x).map AV.p))] (.row 2) [(2, .row 48 5 (l.length + 1) ((l.take i ++ x :: l.drop i).flatMap pkC))] := by
 have hL : (l.flatMap pkC).length = l.length * 5 := zap (f := pkC) (k := 5) (fun _ => rfl) l
 rw [fm_ins (f := pkC) (k := 5) (fun _ => rfl) l i x hi]
 generalize l.flatMap pkC = L at *
 generalize l.length = n at *
 refine zdR func168 rfl (qbe rfl) fun w0 A => ?_
 refine G [8] ?_
 refine zab (zdy (L := (some (_, _))) (H := none) U22 sz48 ⟨qp, rfl⟩ rfl qp qp rfl rfl) rfl rfl ⟨rfl, trivial⟩ ?_
 refine G [11, 3, 9] ?_
 by_cases hin : i = n
 ·subst hin
  refine G [5, 4, 2] ?_
  rw [qbr (by omega : L.length ≤ i * 5), qbS (by omega : L.length ≤ i * 5), qbA]
  refine G [4] ?_
  refine zab (zaq (cs := L) (ys := pkC x) 25 U22 eo48 (zf8 (cs := (pkC x).map AV.p) rfl (qbe rfl) rfl) qB qp rfl rfl) rfl rfl ⟨rfl, rfl, rfl, trivial⟩ ?_
  refine jdR ?_
  refine yT (fun _ => 25) ?_ ?_
  ·exact rfl
  ·exact ja3
 have hlt : i < n := qp
 refine G [5, 3, 2] ?_
 refine awp_openR 0 rfl fun c hc1 hc2 => ?_
 have hXl : ((pkC x).map AV.p).length = 5 := rfl
 have hDl : ((L.drop (i * 5)).map AV.p).length = (n - i) * 5 := qaF
 by_cases hcc : c < n + 1
 ·refine G [8] ?_
  refine jfc (zjr U22) ?_
  refine G [0, 4, 6] ?_
  refine zab (a_sliceC (h := i) (H := some (.i64, (i : Int))) U22 sz48 ⟨qp, qC⟩ qp) rfl rfl ⟨rfl, trivial⟩ ?_
  refine G [4] ?_
  refine zaa (zgD (c := ((n + 1 - i : Nat) : Int)) qaD) rfl rfl ?_
  refine zab (zgU (size := 5) (k := n + 1 - i) (q := n + 1) (zs := (L.take (i * 5)).map AV.p ++ List.replicate ((n + 1 - i) * 5) .any) 40 U22 U3 eo48 qp qp qp qp qB qp (by rw [List.map_take]) qp) rfl rfl ⟨rfl, rfl, trivial⟩ ?_
  refine G [2] ?_
  have hMl : ((L.take (i * 5)).map AV.p ++ List.replicate ((n + 1 - i) * 5) AV.any).length = i * 5 + ((pkC x).map AV.p).length + ((L.drop (i * 5)).map AV.p).length := by
   rw [hXl, hDl, qbg, qbu, List.length_take, List.length_replicate]
   omega
  have hset := setR2a hMl
  have hT0 : ((L.take (i * 5)).map AV.p ++ List.replicate ((n + 1 - i) * 5) AV.any).take (i * 5) = (L.take (i * 5)).map AV.p := by
   exact jcx
  rw [hT0, ← qbF, ← qbF] at hset
  generalize hM : (L.take (i * 5)).map AV.p ++ List.replicate ((n + 1 - i) * 5) AV.any = M at *
  refine G [4] ?_
  refine zab (zbg (L := (some (_, _))) (H := none) U22 sz48 ⟨qp, rfl⟩ rfl qp qp rfl rfl) rfl rfl ⟨rfl, trivial⟩ ?_
  refine jfb (zaF (r := .psl _ _ _ _)) ?_
  refine zab (zdA (q := 1) (size := 5) (ys := pkC x) U22 sz48 (srcQ (zf8 (cs := (pkC x).map AV.p) rfl (qbe rfl) rfl)) qp qp qp rfl) rfl rfl ⟨rfl, rfl, trivial⟩ ?_
  refine G [7] ?_
  refine zab (zbg (L := (some (_, _))) (H := none) U22 sz48 ⟨qp, rfl⟩ rfl qp qp rfl rfl) rfl rfl ⟨rfl, trivial⟩ ?_
  refine G [2] ?_
  refine zab (zbg (L := (some (_, _))) (H := none) U22 sz48 ⟨qp, rfl⟩ rfl qp qp rfl rfl) rfl rfl ⟨rfl, trivial⟩ ?_
  refine zab (zdA (q := n - i) (size := 5) (ys := L.drop (i * 5)) U22 sz48 (zfv qp qaJ qag) qp qp (by rw [zbx (by rw [hXl]; omega)]; omega) (es := setR (setR M (i * 5) ((pkC x).map AV.p)) (i * 5 + ((pkC x).map AV.p).length) ((L.drop (i * 5)).map AV.p)) qaR) rfl rfl ⟨rfl, rfl, trivial⟩ ?_
  refine G [6] ?_
  refine za7 (zc4 40 (cs := L.take (i * 5) ++ pkC x ++ L.drop (i * 5)) qa6) ?_
  refine zaA (zbA (yT (fun _ => 40) ?_ ?_))
  ·exact rfl
  ·exact ja3
 ·refine G [8] ?_
  refine jfc (zjr U22) ?_
  refine G [0, 3, 9] ?_
  refine zab (a_sliceUp (o' := 60) (h := n + 1) (H := some (.i64, ((n + 1 : Nat) : Int))) (zs := L.map AV.p ++ List.replicate (1 * 5) .any) U22 sz48 ⟨qp, qC⟩ qp qp (by rw [show n + 1 - n = 1 by omega])) rfl rfl ⟨rfl, rfl, trivial⟩ ?_
  refine G [2] ?_
  have hMl : (L.map AV.p ++ List.replicate (1 * 5) AV.any).length = i * 5 + ((pkC x).map AV.p).length + ((L.drop (i * 5)).map AV.p).length := by
   rw [hXl, hDl, qbg, qbu, List.length_replicate]
   omega
  have hset := setR2b hMl
  have hT0 : (L.map AV.p ++ List.replicate (1 * 5) AV.any).take (i * 5) = (L.take (i * 5)).map AV.p := by
   rw [qbH (by rw [qbu]; omega), List.map_take]
  have hD0 : ((L.map AV.p ++ List.replicate (1 * 5) AV.any).drop (i * 5)).take ((n - i) * 5) = (L.drop (i * 5)).map AV.p := by
   exact jcb
  rw [hT0, ← qbF, ← qbF] at hset
  generalize hM : L.map AV.p ++ List.replicate (1 * 5) AV.any = M at *
  refine G [8] ?_
  refine zab (zbg (L := (some (_, _))) (H := none) U22 sz48 ⟨qp, rfl⟩ rfl qp qp rfl rfl) rfl rfl ⟨rfl, trivial⟩ ?_
  refine zab (ziE (tR := 4) (size := 5) func191 qr rfl rfl qr U22 sz48 rfl qp qp qp) rfl rfl ⟨rfl, rfl, trivial⟩ ?_
  refine G [9] ?_
  refine zab (zbg (L := (some (_, _))) (H := none) U22 sz48 ⟨qp, rfl⟩ rfl qp qp rfl rfl) rfl rfl ⟨rfl, trivial⟩ ?_
  refine G [2] ?_
  refine zab (zbg (L := (some (_, _))) (H := none) U22 sz48 ⟨qp, rfl⟩ rfl qp qp rfl rfl) rfl rfl ⟨rfl, trivial⟩ ?_
  refine zab (zdA (q := n - i) (size := 5) (ys := L.drop (i * 5)) U22 sz48 (zfv qp qp hD0) qp qp qp (es := setR M (i * 5 + ((pkC x).map AV.p).length) ((L.drop (i * 5)).map AV.p)) qaR) rfl rfl ⟨rfl, rfl, trivial⟩ ?_
  refine G [5] ?_
  refine zab (zbg (L := (some (_, _))) (H := none) U22 sz48 ⟨qp, rfl⟩ rfl qp qp rfl rfl) rfl rfl ⟨rfl, trivial⟩ ?_
  refine jfb (zaF (r := .psl _ _ _ _)) ?_
  refine zab (zdA (q := 1) (size := 5) (ys := pkC x) U22 sz48 (srcQ (zf8 (cs := (pkC x).map AV.p) rfl (qbe rfl) rfl)) qp qp (by rw [zbx (by rw [hDl]; omega)]; omega) rfl) rfl rfl ⟨rfl, rfl, trivial⟩ ?_
  refine G [6] ?_
  refine za7 (zc4 60 (cs := L.take (i * 5) ++ pkC x ++ L.drop (i * 5)) qa6) ?_
  refine zaA (zbA (yT (fun _ => 60) ?_ ?_))
  ·exact rfl
  ·exact ja3
end Go.Proofs.YtlfjpippeeikdaaGreatDoor
