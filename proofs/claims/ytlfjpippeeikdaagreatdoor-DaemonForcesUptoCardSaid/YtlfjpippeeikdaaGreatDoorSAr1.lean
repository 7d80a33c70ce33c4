/- The reference's ConfCopy and ApplyOne, over data. -/
import Derived.Test.YtlfjpippeeikdaaGreatDoorSAo1
import Derived.Test.YtlfjpippeeikdaaGreatDoorSFw
set_option linter.all false
namespace Go.Proofs.YtlfjpippeeikdaaGreatDoor
open Tryz
open Go.RowKit Go.Sort
set_option maxHeartbeats 16000000
set_option maxRecDepth 100000
theorem newP_view (t : ByteArray) (S : Nat → Prop) (m : Nat → Option Value) (w : World) (us : List Value) (h : RepL S m w [.agg [qc t, qc ⟨#[]⟩, qc ⟨#[]⟩, qd 0, qj]] us) : RepL S m w [.agg (newP t).cells] us := by
 simp only [newP, PE.cells, RepL, Rep, PRep, PRepL, qbV, qb9] at h ⊢
 obtain ⟨u, _, rfl, ⟨ua, rfl, ⟨u0, _, rfl, h0, u1, _, rfl, h1, u2, _, rfl, h2, u3, _, rfl, h3, u4, _, rfl, ⟨rfl, _⟩, rfl⟩, h5⟩, rfl⟩ := h
 exact ⟨_, _, rfl, ⟨_, rfl, ⟨u0, _, rfl, h0, u1, _, rfl, h1, u2, _, rfl, h2, u3, _, rfl, h3, _, _, rfl, ⟨none, 0, [], rfl, Nat.le_refl _, qz, rfl, qz⟩, rfl⟩, h5⟩, rfl⟩
theorem za8 (c : CF) (ok : c.OK) : Fn prog 63 [.agg c.cells] (.agg [qc c.key, qd c.port, .row 0]) [(0, .row 48 5 c.ps.length (c.ps.flatMap PE.pv))] := by
 obtain ⟨key, port, l⟩ := c
 obtain ⟨hn, ok⟩ := ok
 dsimp only at hn ok
 show Fn prog _ [.agg (cfC key port l.length (l.flatMap PE.pv))] (.agg [qc key, qd port, .row 0]) [(0, .row 48 5 l.length (l.flatMap PE.pv))]
 refine fnI fun w0 A => ?_
 refine G [24] ?_
 refine zaH (zii 3 2 100 48 5 rfl rfl rfl) ?_
 refine zae (fun m st => ∃ i : Nat, m + i = l.length ∧ st = St.of [(2, .ref 2 0), (3, .ref 3 0), (12, .p (.sl l.length 5 (l.flatMap PE.pv))), (13, qd l.length), (14, qd i)] [(2, .box 24 [qc ⟨#[]⟩, qd 0, qj]), (3, .box 24 [qc key, qd port, .row 100]), (100, .row 48 5 i ((l.take i).flatMap PE.pv))]) l.length ?_ ?_
 ·exact jbU
 rintro m st ⟨i, hi, rfl⟩
 refine G [5] ?_
 refine cX ?_ ?_ <;> intro h
 ·have hlt : i < l.length := by simp at h; omega
  clear h
  obtain ⟨p, hp⟩ : ∃ p, l[i]? = some p := ⟨l[i], List.getElem?_eq_getElem hlt⟩
  have hch := zaj (f := PE.pv) (k := 5) (fun _ => rfl) hp
  have hle := zak (f := PE.pv) (k := 5) (fun _ => rfl) hlt
  have hpl := (ok p (qaE hp)).2
  have hpush := pe_push l i p hp
  have hil : ((l.take i).flatMap PE.pv).length = i * 5 := by rw [zas (f := PE.pv) (k := 5) (fun _ => rfl), List.length_take, Nat.min_eq_left (by omega)]
  generalize hL : l.flatMap PE.pv = L at *
  generalize (l.take i).flatMap PE.pv = T at *
  obtain ⟨pk, sh, ep, al, nn⟩ := p
  dsimp only at hpl
  refine G [8] ?_
  refine jc5 ?_
  refine G [5] ?_
  refine zab (zd4 20 U46 eo82 (zdh) qy qk) rfl rfl ⟨rfl, trivial⟩ ?_
  refine G [3] ?_
  refine zbd (zdO (cs := nn.flatMap ntC) 20 rfl) ?_
  skip
  refine G [4] ?_
  refine jdZ (zai 25 U22 sz48 zc48 (qaA rfl) (qaA rfl) rfl rfl rfl rfl (qaA rfl)) ?_
  refine zab (zaq 26 U22 eo48 (zaU) qy qk rfl rfl) rfl rfl ⟨rfl, rfl, rfl, trivial⟩ ?_
  refine jcS ?_
  refine ⟨m - 1, qk, _, zad (fun o => bif Nat.beq o 100 then 26 else o) [(2, .ref 2 0), (3, .ref 3 0), (12, .p (.sl l.length 5 L)), (13, qd l.length), (14, qd (i + 1 : Nat))] [(2, .box 24 [qc ⟨#[]⟩, qd 0, qj]), (3, .box 24 [qc key, qd port, .row 100]), (100, .row 48 5 (i + 1) (T ++ [qg pk, qg sh, qg ep, qh al, .sl nn.length 2 (nn.flatMap ntC)]))] ?_ ?_ rfl, i + 1, qk, by rw [← hpush]; rfl⟩
  ·exact ja5
  ·exact jaP
 exact jaG
theorem zeR (e : Int) : Fn prog 96 [qd e] (oErr e) [] := by
 show Fn prog _ _ (.tup [.agg [qc ⟨#[]⟩, qd 0, qj], qc ⟨#[]⟩, qd e]) _
 refine fnI fun w0 A => ?_
 refine G [15, 9, 0] ?_
 exact yE
theorem refOne_bad (c : CF) (ok : c.OK) (pt : ByteArray) (s : SE) (sok : s.OK) (h : cfE c ≠ 0) : Fn prog 65 [.agg c.cells, qc pt, .agg s.cells] (oErr (cfE c)) [] := by
 have hC := zaX c ok
 generalize cfE c = e at *
 obtain ⟨key, port, l⟩ := c
 obtain ⟨k, t, n, a, b⟩ := s
 have hN := zeR (e)
 change Fn prog _ _ (.tup [.agg [qc ⟨#[]⟩, qd 0, qj], qc ⟨#[]⟩, qd (e)]) _ at hN
 refine jcN ?_
 change Fn prog _ [.agg (cfC key port l.length (l.flatMap PE.pv))] _ _ at hC
 clear ok sok
 generalize l.flatMap PE.pv = L at *
 refine fnI fun w0 A => ?_
 refine G [16] ?_
 refine cK hC ?_
 refine G [5, 4, 6] ?_
 exact jbQ
theorem refOne_bad2 (c : CF) (ok : c.OK) (pt : ByteArray) (s : SE) (sok : s.OK) (h : cfE c = 0) (h2 : seE s ≠ 0) : Fn prog 65 [.agg c.cells, qc pt, .agg s.cells] (oErr (seE s)) [] := by
 have hC := zaX c ok
 rw [h] at hC
 have hS := zaY s sok
 generalize seE s = e at *
 obtain ⟨key, port, l⟩ := c
 obtain ⟨k, t, n, a, b⟩ := s
 have hN := zeR (e)
 change Fn prog _ _ (.tup [.agg [qc ⟨#[]⟩, qd 0, qj], qc ⟨#[]⟩, qd (e)]) _ at hN
 refine jcN ?_
 change Fn prog _ [.agg (cfC key port l.length (l.flatMap PE.pv))] _ _ at hC
 change Fn prog _ [.agg [qd k, qc t, qd n, qe a, qd b]] _ _ at hS
 clear ok sok
 generalize l.flatMap PE.pv = L at *
 refine fnI fun w0 A => ?_
 refine G [16] ?_
 refine cK hC ?_
 refine G [5, 1, 7] ?_
 refine cK hS ?_
 refine G [5, 4, 6] ?_
 exact jbQ
theorem ref1a_s (key : ByteArray) (port : Int) (l : List PE) (ok : CF.OK ⟨key, port, l⟩) (pt : ByteArray) (t : ByteArray) (n a b : Int) (sok : SE.OK ⟨1, t, n, a, b⟩) (hc0 : cfE ⟨key, port, l⟩ = 0) (hs0 : seE ⟨1, t, n, a, b⟩ = 0) (h : peN t l < l.length) : Fn prog 65 [.agg (CF.cells ⟨key, port, l⟩), qc pt, .agg (SE.cells ⟨1, t, n, a, b⟩)] (.tup [.agg [qc ⟨#[]⟩, qd 0, qj], qc ⟨#[]⟩, qd 14]) [] := by
 have hC := zaX ⟨key, port, l⟩ ok
 rw [hc0] at hC
 have hS := zaY ⟨1, t, n, a, b⟩ sok
 rw [hs0] at hS
 have hK := za8 ⟨key, port, l⟩ ok
 have hA := zaL ⟨key, port, l⟩ ok t
 have hA2 := zaL ⟨key, port, l⟩ ok pt
 have hn := ok.len
 dsimp only at hn
 change Fn prog _ [.agg (cfC key port l.length (l.flatMap PE.pv))] _ _ at hC hK
 change Fn prog _ [.agg (cfC key port l.length (l.flatMap PE.pv)), _] (qd (peN t l : Nat)) _ at hA
 change Fn prog _ [.agg (cfC key port l.length (l.flatMap PE.pv)), _] (qd (peN pt l : Nat)) _ at hA2
 change Fn prog _ [.agg [qd 1, qc t, qd n, qe a, qd b]] _ _ at hS
 refine jdE ?_
 have hN := zeR (14)
 change Fn prog _ _ (.tup [.agg [qc ⟨#[]⟩, qd 0, qj], qc ⟨#[]⟩, qd 14]) _ at hN
 clear ok sok hc0 hs0
 generalize l.flatMap PE.pv = L at *
 generalize peN t l = T at *
 refine fnI fun w0 A => ?_
 refine G [16] ?_
 refine cK hC ?_
 refine G [5, 1, 7] ?_
 refine cK hS ?_
 refine G [5, 1, 6] ?_
 refine zaM (fun _ => 40) (hK) rfl rfl F63 rfl rfl qr rfl rfl rfl ql rfl rfl rfl ?_
 refine G [3] ?_
 refine jcU ?_
 refine G [5] ?_
 refine cV hA ?_
 refine G [8, 4, 11] ?_
 (first | refine zaa zbC rfl rfl ?_ | refine zaa za9 rfl rfl ?_)
 refine G [12] ?_
 refine cK hN ?_
 refine jdh ?_
 exact yE
theorem ref1b_s (key : ByteArray) (port : Int) (l : List PE) (ok : CF.OK ⟨key, port, l⟩) (pt : ByteArray) (t : ByteArray) (n a b : Int) (sok : SE.OK ⟨1, t, n, a, b⟩) (hc0 : cfE ⟨key, port, l⟩ = 0) (hs0 : seE ⟨1, t, n, a, b⟩ = 0) (h : ¬ peN t l < l.length) : Fn prog 65 [.agg (CF.cells ⟨key, port, l⟩), qc pt, .agg (SE.cells ⟨1, t, n, a, b⟩)] (.tup [.agg [qc t, qd port, .row 0], qc ⟨#[]⟩, qd 0]) [(0, .row 48 5 l.length (l.flatMap PE.pv))] := by
 have hC := zaX ⟨key, port, l⟩ ok
 rw [hc0] at hC
 have hS := zaY ⟨1, t, n, a, b⟩ sok
 rw [hs0] at hS
 have hK := za8 ⟨key, port, l⟩ ok
 have hA := zaL ⟨key, port, l⟩ ok t
 have hA2 := zaL ⟨key, port, l⟩ ok pt
 have hn := ok.len
 dsimp only at hn
 change Fn prog _ [.agg (cfC key port l.length (l.flatMap PE.pv))] _ _ at hC hK
 change Fn prog _ [.agg (cfC key port l.length (l.flatMap PE.pv)), _] (qd (peN t l : Nat)) _ at hA
 change Fn prog _ [.agg (cfC key port l.length (l.flatMap PE.pv)), _] (qd (peN pt l : Nat)) _ at hA2
 change Fn prog _ [.agg [qd 1, qc t, qd n, qe a, qd b]] _ _ at hS
 refine jdE ?_
 clear ok sok hc0 hs0
 generalize l.flatMap PE.pv = L at *
 generalize peN t l = T at *
 refine fnI fun w0 A => ?_
 refine G [16] ?_
 refine cK hC ?_
 refine G [5, 1, 7] ?_
 refine cK hS ?_
 refine G [5, 1, 6] ?_
 refine zaM (fun _ => 40) (hK) rfl rfl F63 rfl rfl qr rfl rfl rfl ql rfl rfl rfl ?_
 refine G [3] ?_
 refine jcU ?_
 refine G [5] ?_
 refine cV hA ?_
 refine G [8, 3, 11] ?_
 (first | refine zaa zbC rfl rfl ?_ | refine zaa za9 rfl rfl ?_)
 refine G [25, 9, 0] ?_
 refine yT (fun _ => 40) ?_ ?_
 ·exact rfl
 ·exact ⟨⟨rfl, rfl⟩, trivial⟩
theorem ref2_s (key : ByteArray) (port : Int) (l : List PE) (ok : CF.OK ⟨key, port, l⟩) (pt : ByteArray) (t : ByteArray) (n a b : Int) (sok : SE.OK ⟨2, t, n, a, b⟩) (hc0 : cfE ⟨key, port, l⟩ = 0) (hs0 : seE ⟨2, t, n, a, b⟩ = 0) : Fn prog 65 [.agg (CF.cells ⟨key, port, l⟩), qc pt, .agg (SE.cells ⟨2, t, n, a, b⟩)] (.tup [.agg [qc key, qd n, .row 0], qc ⟨#[]⟩, qd 0]) [(0, .row 48 5 l.length (l.flatMap PE.pv))] := by
 have hC := zaX ⟨key, port, l⟩ ok
 rw [hc0] at hC
 have hS := zaY ⟨2, t, n, a, b⟩ sok
 rw [hs0] at hS
 have hK := za8 ⟨key, port, l⟩ ok
 have hA := zaL ⟨key, port, l⟩ ok t
 have hA2 := zaL ⟨key, port, l⟩ ok pt
 have hn := ok.len
 dsimp only at hn
 change Fn prog _ [.agg (cfC key port l.length (l.flatMap PE.pv))] _ _ at hC hK
 change Fn prog _ [.agg (cfC key port l.length (l.flatMap PE.pv)), _] (qd (peN t l : Nat)) _ at hA
 change Fn prog _ [.agg (cfC key port l.length (l.flatMap PE.pv)), _] (qd (peN pt l : Nat)) _ at hA2
 change Fn prog _ [.agg [qd 2, qc t, qd n, qe a, qd b]] _ _ at hS
 show Fn prog _ [.agg (cfC key port l.length (l.flatMap PE.pv)), _, .agg [qd 2, qc t, qd n, qe a, qd b]] _ _
 clear ok sok hc0 hs0
 generalize l.flatMap PE.pv = L at *
 generalize peN t l = T at *
 refine fnI fun w0 A => ?_
 refine G [16] ?_
 refine cK hC ?_
 refine G [5, 1, 7] ?_
 refine cK hS ?_
 refine G [5, 1, 6] ?_
 refine zaM (fun _ => 40) (hK) rfl rfl F63 rfl rfl qr rfl rfl rfl ql rfl rfl rfl ?_
 refine G [3] ?_
 refine zaE (zaH (zad id [(1, qc pt), (3, .ref 3 0), (5, .ref 5 0), (6, .ref 6 0), (9, .fn 96 []), (12, .ref 12 0)] [(3, .box 24 (cfC key port l.length L)), (5, .box 107 [qd 2, qc t, qd n, qe a, qd b]), (6, .box 24 [qc ⟨#[]⟩, qd 0, qj]), (12, .box 24 [qc key, qd port, .row 40]), (40, .row 48 5 l.length L)] qp qp rfl) ?_)
 refine G [5] ?_
 refine cV hA ?_
 refine G [8] ?_
 refine jcX ?_
 refine G [17] ?_
 (first | refine zaa zbC rfl rfl ?_ | refine zaa za9 rfl rfl ?_)
 refine G [18, 9, 0] ?_
 refine yT (fun _ => 40) ?_ ?_
 ·exact rfl
 ·exact ⟨⟨rfl, rfl⟩, trivial⟩
theorem ref3_s (key : ByteArray) (port : Int) (l : List PE) (ok : CF.OK ⟨key, port, l⟩) (pt : ByteArray) (t : ByteArray) (n a b : Int) (sok : SE.OK ⟨3, t, n, a, b⟩) (hc0 : cfE ⟨key, port, l⟩ = 0) (hs0 : seE ⟨3, t, n, a, b⟩ = 0) : Fn prog 65 [.agg (CF.cells ⟨key, port, l⟩), qc pt, .agg (SE.cells ⟨3, t, n, a, b⟩)] (.tup [.agg [qc key, qd port, .p (.sl 0 5 [])], qc ⟨#[]⟩, qd 0]) [] := by
 have hC := zaX ⟨key, port, l⟩ ok
 rw [hc0] at hC
 have hS := zaY ⟨3, t, n, a, b⟩ sok
 rw [hs0] at hS
 have hK := za8 ⟨key, port, l⟩ ok
 have hA := zaL ⟨key, port, l⟩ ok t
 have hA2 := zaL ⟨key, port, l⟩ ok pt
 have hn := ok.len
 dsimp only at hn
 change Fn prog _ [.agg (cfC key port l.length (l.flatMap PE.pv))] _ _ at hC hK
 change Fn prog _ [.agg (cfC key port l.length (l.flatMap PE.pv)), _] (qd (peN t l : Nat)) _ at hA
 change Fn prog _ [.agg (cfC key port l.length (l.flatMap PE.pv)), _] (qd (peN pt l : Nat)) _ at hA2
 change Fn prog _ [.agg [qd 3, qc t, qd n, qe a, qd b]] _ _ at hS
 show Fn prog _ [.agg (cfC key port l.length (l.flatMap PE.pv)), _, .agg [qd 3, qc t, qd n, qe a, qd b]] _ _
 clear ok sok hc0 hs0
 generalize l.flatMap PE.pv = L at *
 generalize peN t l = T at *
 refine fnI fun w0 A => ?_
 refine G [16] ?_
 refine cK hC ?_
 refine G [5, 1, 7] ?_
 refine cK hS ?_
 refine G [5, 1, 6] ?_
 refine zaM (fun _ => 40) (hK) rfl rfl F63 rfl rfl qr rfl rfl rfl ql rfl rfl rfl ?_
 refine G [3] ?_
 refine zaE (zaH (zad id [(1, qc pt), (3, .ref 3 0), (5, .ref 5 0), (6, .ref 6 0), (9, .fn 96 []), (12, .ref 12 0)] [(3, .box 24 (cfC key port l.length L)), (5, .box 107 [qd 3, qc t, qd n, qe a, qd b]), (6, .box 24 [qc ⟨#[]⟩, qd 0, qj]), (12, .box 24 [qc key, qd port, .row 40]), (40, .row 48 5 l.length L)] qp qp rfl) ?_)
 refine G [5] ?_
 refine cV hA ?_
 refine G [8] ?_
 refine jcX ?_
 refine G [23] ?_
 (first | refine zaa zbC rfl rfl ?_ | refine zaa za9 rfl rfl ?_)
 refine G [6] ?_
 refine jdZ (zhw (nil_sl (.ref 12 (0 + 2)) 5) (zaS (es := [qc key, qd port, .p (.sl 0 5 [])]) sz22 rfl rfl (qaA rfl) rfl)) ?_
 refine G [9, 9, 0] ?_
 exact yE
theorem ref4own_s (key : ByteArray) (port : Int) (l : List PE) (ok : CF.OK ⟨key, port, l⟩) (pt : ByteArray) (t : ByteArray) (n a b : Int) (sok : SE.OK ⟨4, t, n, a, b⟩) (hc0 : cfE ⟨key, port, l⟩ = 0) (hs0 : seE ⟨4, t, n, a, b⟩ = 0) (h : t = key) : Fn prog 65 [.agg (CF.cells ⟨key, port, l⟩), qc pt, .agg (SE.cells ⟨4, t, n, a, b⟩)] (.tup [.agg [qc ⟨#[]⟩, qd 0, qj], qc ⟨#[]⟩, qd 14]) [] := by
 have hC := zaX ⟨key, port, l⟩ ok
 rw [hc0] at hC
 have hS := zaY ⟨4, t, n, a, b⟩ sok
 rw [hs0] at hS
 have hK := za8 ⟨key, port, l⟩ ok
 have hA := zaL ⟨key, port, l⟩ ok t
 have hA2 := zaL ⟨key, port, l⟩ ok pt
 have hn := ok.len
 dsimp only at hn
 change Fn prog _ [.agg (cfC key port l.length (l.flatMap PE.pv))] _ _ at hC hK
 change Fn prog _ [.agg (cfC key port l.length (l.flatMap PE.pv)), _] (qd (peN t l : Nat)) _ at hA
 change Fn prog _ [.agg (cfC key port l.length (l.flatMap PE.pv)), _] (qd (peN pt l : Nat)) _ at hA2
 change Fn prog _ [.agg [qd 4, qc t, qd n, qe a, qd b]] _ _ at hS
 refine jde ?_
 have hN := zeR (14)
 change Fn prog _ _ (.tup [.agg [qc ⟨#[]⟩, qd 0, qj], qc ⟨#[]⟩, qd 14]) _ at hN
 clear ok sok hc0 hs0
 generalize l.flatMap PE.pv = L at *
 generalize peN t l = T at *
 refine fnI fun w0 A => ?_
 refine G [16] ?_
 refine cK hC ?_
 refine G [5, 1, 7] ?_
 refine cK hS ?_
 refine G [5, 1, 6] ?_
 refine zaM (fun _ => 40) (hK) rfl rfl F63 rfl rfl qr rfl rfl rfl ql rfl rfl rfl ?_
 refine G [3] ?_
 refine jcK ?_
 refine G [5] ?_
 refine cV hA ?_
 refine G [8] ?_
 refine jcX ?_
 refine G [29] ?_
 (first | refine zaa zbC rfl rfl ?_ | refine zaa za9 rfl rfl ?_)
 refine G [10, 4, 5] ?_
 refine cK hN ?_
 refine jdh ?_
 exact yE
theorem ref4old_s (key : ByteArray) (port : Int) (l : List PE) (ok : CF.OK ⟨key, port, l⟩) (pt : ByteArray) (t : ByteArray) (n a b : Int) (sok : SE.OK ⟨4, t, n, a, b⟩) (hc0 : cfE ⟨key, port, l⟩ = 0) (hs0 : seE ⟨4, t, n, a, b⟩ = 0) (h0 : t ≠ key) (h : peN t l < l.length) : Fn prog 65 [.agg (CF.cells ⟨key, port, l⟩), qc pt, .agg (SE.cells ⟨4, t, n, a, b⟩)] (.tup [.agg [qc key, qd port, .row 0], qc t, qd 0]) [(0, .row 48 5 l.length (l.flatMap PE.pv))] := by
 have hC := zaX ⟨key, port, l⟩ ok
 rw [hc0] at hC
 have hS := zaY ⟨4, t, n, a, b⟩ sok
 rw [hs0] at hS
 have hK := za8 ⟨key, port, l⟩ ok
 have hA := zaL ⟨key, port, l⟩ ok t
 have hA2 := zaL ⟨key, port, l⟩ ok pt
 have hn := ok.len
 dsimp only at hn
 change Fn prog _ [.agg (cfC key port l.length (l.flatMap PE.pv))] _ _ at hC hK
 change Fn prog _ [.agg (cfC key port l.length (l.flatMap PE.pv)), _] (qd (peN t l : Nat)) _ at hA
 change Fn prog _ [.agg (cfC key port l.length (l.flatMap PE.pv)), _] (qd (peN pt l : Nat)) _ at hA2
 change Fn prog _ [.agg [qd 4, qc t, qd n, qe a, qd b]] _ _ at hS
 refine jde ?_
 clear ok sok hc0 hs0
 generalize l.flatMap PE.pv = L at *
 generalize peN t l = T at *
 refine fnI fun w0 A => ?_
 refine G [16] ?_
 refine cK hC ?_
 refine G [5, 1, 7] ?_
 refine cK hS ?_
 refine G [5, 1, 6] ?_
 refine zaM (fun _ => 40) (hK) rfl rfl F63 rfl rfl qr rfl rfl rfl ql rfl rfl rfl ?_
 refine G [3] ?_
 refine jcK ?_
 refine G [5] ?_
 refine cV hA ?_
 refine G [8, 4, 29] ?_
 (first | refine zaa zbC rfl rfl ?_ | refine zaa za9 rfl rfl ?_)
 refine G [10, 3, 35, 9, 0] ?_
 refine yT (fun _ => 40) ?_ ?_
 ·exact rfl
 ·exact ⟨⟨rfl, rfl⟩, trivial⟩
theorem ref4full_s (key : ByteArray) (port : Int) (l : List PE) (ok : CF.OK ⟨key, port, l⟩) (pt : ByteArray) (t : ByteArray) (n a b : Int) (sok : SE.OK ⟨4, t, n, a, b⟩) (hc0 : cfE ⟨key, port, l⟩ = 0) (hs0 : seE ⟨4, t, n, a, b⟩ = 0) (h0 : t ≠ key) (h : ¬ peN t l < l.length) (h2 : l.length = 6) : Fn prog 65 [.agg (CF.cells ⟨key, port, l⟩), qc pt, .agg (SE.cells ⟨4, t, n, a, b⟩)] (.tup [.agg [qc ⟨#[]⟩, qd 0, qj], qc ⟨#[]⟩, qd 7]) [] := by
 have hC := zaX ⟨key, port, l⟩ ok
 rw [hc0] at hC
 have hS := zaY ⟨4, t, n, a, b⟩ sok
 rw [hs0] at hS
 have hK := za8 ⟨key, port, l⟩ ok
 have hA := zaL ⟨key, port, l⟩ ok t
 have hA2 := zaL ⟨key, port, l⟩ ok pt
 have hn := ok.len
 dsimp only at hn
 change Fn prog _ [.agg (cfC key port l.length (l.flatMap PE.pv))] _ _ at hC hK
 change Fn prog _ [.agg (cfC key port l.length (l.flatMap PE.pv)), _] (qd (peN t l : Nat)) _ at hA
 change Fn prog _ [.agg (cfC key port l.length (l.flatMap PE.pv)), _] (qd (peN pt l : Nat)) _ at hA2
 change Fn prog _ [.agg [qd 4, qc t, qd n, qe a, qd b]] _ _ at hS
 refine jde ?_
 have hN := zeR (7)
 change Fn prog _ _ (.tup [.agg [qc ⟨#[]⟩, qd 0, qj], qc ⟨#[]⟩, qd 7]) _ at hN
 clear ok sok hc0 hs0
 generalize l.flatMap PE.pv = L at *
 generalize peN t l = T at *
 refine fnI fun w0 A => ?_
 refine G [16] ?_
 refine cK hC ?_
 refine G [5, 1, 7] ?_
 refine cK hS ?_
 refine G [5, 1, 6] ?_
 refine zaM (fun _ => 40) (hK) rfl rfl F63 rfl rfl qr rfl rfl rfl ql rfl rfl rfl ?_
 refine G [3] ?_
 refine jcK ?_
 refine G [5] ?_
 refine cV hA ?_
 refine G [8, 3, 29, 1, 10, 3, 12, 4, 6] ?_
 exact jbQ
theorem ref4new_s (key : ByteArray) (port : Int) (l : List PE) (ok : CF.OK ⟨key, port, l⟩) (pt : ByteArray) (t : ByteArray) (n a b : Int) (sok : SE.OK ⟨4, t, n, a, b⟩) (hc0 : cfE ⟨key, port, l⟩ = 0) (hs0 : seE ⟨4, t, n, a, b⟩ = 0) (h0 : t ≠ key) (h : ¬ peN t l < l.length) (h2 : l.length < 6) : Fn prog 65 [.agg (CF.cells ⟨key, port, l⟩), qc pt, .agg (SE.cells ⟨4, t, n, a, b⟩)] (.tup [.agg [qc key, qd port, .row 0], qc t, qd 0]) [(0, .row 48 5 (l.length + 1) ((zcz gtP (l ++ [newP t])).flatMap PE.pv))] := by
 have hC := zaX ⟨key, port, l⟩ ok
 rw [hc0] at hC
 have hS := zaY ⟨4, t, n, a, b⟩ sok
 rw [hs0] at hS
 have hK := za8 ⟨key, port, l⟩ ok
 have hA := zaL ⟨key, port, l⟩ ok t
 have hA2 := zaL ⟨key, port, l⟩ ok pt
 have hn := ok.len
 dsimp only at hn
 change Fn prog _ [.agg (cfC key port l.length (l.flatMap PE.pv))] _ _ at hC hK
 change Fn prog _ [.agg (cfC key port l.length (l.flatMap PE.pv)), _] (qd (peN t l : Nat)) _ at hA
 change Fn prog _ [.agg (cfC key port l.length (l.flatMap PE.pv)), _] (qd (peN pt l : Nat)) _ at hA2
 change Fn prog _ [.agg [qd 4, qc t, qd n, qe a, qd b]] _ _ at hS
 refine jde ?_
 have hSo := sortedP_s (l ++ [newP t]) (by rw [qaC]; simp; omega)
 have hap : l.flatMap PE.pv ++ (newP t).pv = (l ++ [newP t]).flatMap PE.pv := by rw [qaX]; simp
 rw [show (l ++ [newP t]).length = l.length + 1 by simp] at hSo
 generalize (zcz gtP (l ++ [newP t])).flatMap PE.pv = L2 at *
 generalize (l ++ [newP t]).flatMap PE.pv = L3 at *
 clear ok sok hc0 hs0
 generalize l.flatMap PE.pv = L at *
 generalize peN t l = T at *
 refine fnI fun w0 A => ?_
 refine G [16] ?_
 refine cK hC ?_
 refine G [5, 1, 7] ?_
 refine cK hS ?_
 refine G [5, 1, 6] ?_
 refine zaM (fun _ => 40) (hK) rfl rfl F63 rfl rfl qr rfl rfl rfl ql rfl rfl rfl ?_
 refine G [3] ?_
 refine jcK ?_
 refine G [5] ?_
 refine cV hA ?_
 refine G [8, 3, 29, 1, 10, 3, 12, 3, 11] ?_
 skip
 refine G [6] ?_
 refine zab (zhw (newP_view t) (zai (es := (newP t).cells) (cs := (newP t).pv) (xs := [.agg (newP t).cells]) 106 U22 sz48 zc48 (qaA rfl) (qaA rfl) rfl rfl rfl rfl (qaA rfl))) rfl rfl ⟨rfl, trivial⟩ ?_
 refine zab (zaq 107 U22 eo48 (zaU) qy qk rfl hap) rfl rfl ⟨rfl, rfl, rfl, trivial⟩ ?_
 refine r_callW (fun n => 108 + 1000 * n) (hSo) rfl rfl func97 rfl rfl rfl rfl rfl rfl rfl ql rfl rfl rfl ?_
 refine G [13, 9, 0] ?_
 refine yT (fun _ => 108) ?_ ?_
 ·exact rfl
 ·exact ⟨⟨rfl, rfl⟩, trivial⟩
theorem zdA (k : Int) (key : ByteArray) (port : Int) (l : List PE) (ok : CF.OK ⟨key, port, l⟩) (pt : ByteArray) (t : ByteArray) (n a b : Int) (sok : SE.OK ⟨k, t, n, a, b⟩) (hc0 : cfE ⟨key, port, l⟩ = 0) (hs0 : seE ⟨k, t, n, a, b⟩ = 0) (h1 : k ≠ 1) (h2 : k ≠ 2) (h3 : k ≠ 3) (h4 : k ≠ 4) (h : pt = ⟨#[]⟩ ∨ ¬ peN pt l < l.length) : Fn prog 65 [.agg (CF.cells ⟨key, port, l⟩), qc pt, .agg (SE.cells ⟨k, t, n, a, b⟩)] (.tup [.agg [qc ⟨#[]⟩, qd 0, qj], qc ⟨#[]⟩, qd 13]) [] := by
 have hC := zaX ⟨key, port, l⟩ ok
 rw [hc0] at hC
 have hS := zaY ⟨k, t, n, a, b⟩ sok
 rw [hs0] at hS
 have hK := za8 ⟨key, port, l⟩ ok
 have hA := zaL ⟨key, port, l⟩ ok t
 have hA2 := zaL ⟨key, port, l⟩ ok pt
 have hn := ok.len
 dsimp only at hn
 change Fn prog _ [.agg (cfC key port l.length (l.flatMap PE.pv))] _ _ at hC hK
 change Fn prog _ [.agg (cfC key port l.length (l.flatMap PE.pv)), _] (qd (peN t l : Nat)) _ at hA
 change Fn prog _ [.agg (cfC key port l.length (l.flatMap PE.pv)), _] (qd (peN pt l : Nat)) _ at hA2
 change Fn prog _ [.agg [qd k, qc t, qd n, qe a, qd b]] _ _ at hS
 refine jdd ?_
 have hN := zeR (13)
 change Fn prog _ _ (.tup [.agg [qc ⟨#[]⟩, qd 0, qj], qc ⟨#[]⟩, qd 13]) _ at hN
 have hU := peN_le pt l
 generalize peN pt l = U at *
 clear ok sok hc0 hs0
 generalize l.flatMap PE.pv = L at *
 generalize peN t l = T at *
 refine fnI fun w0 A => ?_
 refine G [16] ?_
 refine cK hC ?_
 refine G [5, 1, 7] ?_
 refine cK hS ?_
 refine G [5, 1, 6] ?_
 refine zaM (fun _ => 40) (hK) rfl rfl F63 rfl rfl qr rfl rfl rfl ql rfl rfl rfl ?_
 refine G [3] ?_
 refine zaE (zaH (zad id [(1, qc pt), (3, .ref 3 0), (5, .ref 5 0), (6, .ref 6 0), (9, .fn 96 []), (12, .ref 12 0)] [(3, .box 24 (cfC key port l.length L)), (5, .box 107 [qd k, qc t, qd n, qe a, qd b]), (6, .box 24 [qc ⟨#[]⟩, qd 0, qj]), (12, .box 24 [qc key, qd port, .row 40]), (40, .row 48 5 l.length L)] qp qp rfl) ?_)
 refine G [5] ?_
 refine cV hA ?_
 refine G [8] ?_
 refine jcX ?_
 refine G [11, 3, 5, 3, 5, 3, 5, 3, 8] ?_
 refine cV hA2 ?_
 refine G [2] ?_
 by_cases h0 : pt = ⟨#[]⟩
 ·refine G [4, 4, 12] ?_
  exact jbQ
 ·have hJ : U = l.length := by
   have := h.resolve_left h0
   omega
  refine G [4, 3, 5, 4, 6] ?_
  exact jbQ
theorem ref5_s (key : ByteArray) (port : Int) (l : List PE) (ok : CF.OK ⟨key, port, l⟩) (pt : ByteArray) (t : ByteArray) (n a b : Int) (sok : SE.OK ⟨5, t, n, a, b⟩) (hc0 : cfE ⟨key, port, l⟩ = 0) (hs0 : seE ⟨5, t, n, a, b⟩ = 0) (h0 : pt ≠ ⟨#[]⟩) (h : peN pt l < l.length) : Fn prog 65 [.agg (CF.cells ⟨key, port, l⟩), qc pt, .agg (SE.cells ⟨5, t, n, a, b⟩)] (.tup [.agg [qc key, qd port, .row 0], qc ⟨#[]⟩, qd 0]) [(0, .row 48 5 (l.length - 1) ((l.take (peN pt l) ++ l.drop (peN pt l + 1)).flatMap PE.pv))] := by
 have hC := zaX ⟨key, port, l⟩ ok
 rw [hc0] at hC
 have hS := zaY ⟨5, t, n, a, b⟩ sok
 rw [hs0] at hS
 have hK := za8 ⟨key, port, l⟩ ok
 have hA := zaL ⟨key, port, l⟩ ok t
 have hA2 := zaL ⟨key, port, l⟩ ok pt
 have hn := ok.len
 dsimp only at hn
 change Fn prog _ [.agg (cfC key port l.length (l.flatMap PE.pv))] _ _ at hC hK
 change Fn prog _ [.agg (cfC key port l.length (l.flatMap PE.pv)), _] (qd (peN t l : Nat)) _ at hA
 change Fn prog _ [.agg (cfC key port l.length (l.flatMap PE.pv)), _] (qd (peN pt l : Nat)) _ at hA2
 change Fn prog _ [.agg [qd 5, qc t, qd n, qe a, qd b]] _ _ at hS
 show Fn prog _ [.agg (cfC key port l.length (l.flatMap PE.pv)), _, .agg [qd 5, qc t, qd n, qe a, qd b]] _ _
 have hL0 : (l.flatMap PE.pv).length = l.length * 5 := zas (f := PE.pv) (k := 5) (fun _ => rfl) l
 have hap : (l.flatMap PE.pv).take (peN pt l * 5) ++ ((l.flatMap PE.pv).drop ((peN pt l + 1) * 5)).take ((l.length - (peN pt l + 1)) * 5) = (l.take (peN pt l) ++ l.drop (peN pt l + 1)).flatMap PE.pv := by
  have h1 : ((l.take (peN pt l)).flatMap PE.pv).length = peN pt l * 5 := by rw [zas (f := PE.pv) (k := 5) (fun _ => rfl), List.length_take, Nat.min_eq_left (by omega)]
  have h2 : ((l.take (peN pt l + 1)).flatMap PE.pv).length = (peN pt l + 1) * 5 := by rw [zas (f := PE.pv) (k := 5) (fun _ => rfl), List.length_take, Nat.min_eq_left (by omega)]
  have h3 : l.flatMap PE.pv = (l.take (peN pt l)).flatMap PE.pv ++ (l.drop (peN pt l)).flatMap PE.pv := by rw [← qaX, qa1]
  have h4 : l.flatMap PE.pv = (l.take (peN pt l + 1)).flatMap PE.pv ++ (l.drop (peN pt l + 1)).flatMap PE.pv := by rw [← qaX, qa1]
  have h5 : ((l.flatMap PE.pv).drop ((peN pt l + 1) * 5)).take ((l.length - (peN pt l + 1)) * 5) = (l.flatMap PE.pv).drop ((peN pt l + 1) * 5) := qaN (by rw [qaP, hL0, ← Nat.sub_mul]; exact Nat.le_refl _)
  have h6 : (l.flatMap PE.pv).take (peN pt l * 5) = (l.take (peN pt l)).flatMap PE.pv := by rw [← h1, h3, qbL]
  have h7 : (l.flatMap PE.pv).drop ((peN pt l + 1) * 5) = (l.drop (peN pt l + 1)).flatMap PE.pv := by rw [← h2, h4, qca]
  rw [h5, h6, h7, qaX]
 generalize (l.take (peN pt l) ++ l.drop (peN pt l + 1)).flatMap PE.pv = L2 at *
 generalize peN pt l = U at *
 clear ok sok hc0 hs0
 generalize l.flatMap PE.pv = L at *
 generalize peN t l = T at *
 refine fnI fun w0 A => ?_
 refine G [16] ?_
 refine cK hC ?_
 refine G [5, 1, 7] ?_
 refine cK hS ?_
 refine G [5, 1, 6] ?_
 refine zaM (fun _ => 40) (hK) rfl rfl F63 rfl rfl qr rfl rfl rfl ql rfl rfl rfl ?_
 refine G [3] ?_
 refine zaE (zaH (zad id [(1, qc pt), (3, .ref 3 0), (5, .ref 5 0), (6, .ref 6 0), (9, .fn 96 []), (12, .ref 12 0)] [(3, .box 24 (cfC key port l.length L)), (5, .box 107 [qd 5, qc t, qd n, qe a, qd b]), (6, .box 24 [qc ⟨#[]⟩, qd 0, qj]), (12, .box 24 [qc key, qd port, .row 40]), (40, .row 48 5 l.length L)] qp qp rfl) ?_)
 refine G [5] ?_
 refine cV hA ?_
 refine G [8] ?_
 refine jcX ?_
 refine G [38] ?_
 refine cV hA2 ?_
 refine G [6, 3, 5, 3, 13] ?_
 (first | refine zaa zbC rfl rfl ?_ | refine zaa za9 rfl rfl ?_)
 refine G [5] ?_
 refine jdZ (za6 134 U22 sz48) ?_
 refine G [3] ?_
 refine zab (zdo (L := none) (H := (some (_, _))) U22 sz48 rfl ⟨qk, rfl⟩ qk qk (show Int.toNat (U : Int) - 0 = U by omega) rfl) rfl rfl ⟨rfl, trivial⟩ ?_
 refine zab (zaq 139 U22 eo48 (zfN qk rfl) qy qk (show 0 + U = U by omega) (show [] ++ (L.drop (0 * 5)).take (U * 5) = L.take (U * 5) by simp)) rfl rfl ⟨rfl, rfl, rfl, trivial⟩ ?_
 refine G [3] ?_
 refine zaa (zd8 (show IntKind.i64.wrap ((U : Int) + 1) = ((U + 1 : Nat) : Int) by rw [qa6 _ (by omega)]; omega)) rfl rfl ?_
 refine zab (zdo (L := (some (_, _))) (H := none) U22 sz48 ⟨qk, rfl⟩ rfl qk qk (show l.length - Int.toNat ((U + 1 : Nat) : Int) = l.length - (U + 1) by omega) (show Int.toNat ((U + 1 : Nat) : Int) * 5 = (U + 1) * 5 by rw [qaS])) rfl rfl ⟨rfl, trivial⟩ ?_
 refine zab (zaq 145 U22 eo48 (zfN qk rfl) qy qk (show U + (l.length - (U + 1)) = l.length - 1 by omega) hap) rfl rfl ⟨rfl, rfl, rfl, trivial⟩ ?_
 refine G [11, 9, 0] ?_
 refine yT (fun _ => 145) ?_ ?_
 ·exact rfl
 ·exact ⟨⟨rfl, rfl⟩, trivial⟩
theorem ref6_s (key : ByteArray) (port : Int) (l : List PE) (ok : CF.OK ⟨key, port, l⟩) (pt : ByteArray) (t : ByteArray) (n a b : Int) (sok : SE.OK ⟨6, t, n, a, b⟩) (hc0 : cfE ⟨key, port, l⟩ = 0) (hs0 : seE ⟨6, t, n, a, b⟩ = 0) (h0 : pt ≠ ⟨#[]⟩) (h : peN pt l < l.length) : Fn prog 65 [.agg (CF.cells ⟨key, port, l⟩), qc pt, .agg (SE.cells ⟨6, t, n, a, b⟩)] (.tup [.agg [qc key, qd port, .row 0], qc pt, qd 0]) [(0, .row 48 5 l.length ((l.set (peN pt l) { l[peN pt l] with sh := t }).flatMap PE.pv))] := by
 have hC := zaX ⟨key, port, l⟩ ok
 rw [hc0] at hC
 have hS := zaY ⟨6, t, n, a, b⟩ sok
 rw [hs0] at hS
 have hK := za8 ⟨key, port, l⟩ ok
 have hA := zaL ⟨key, port, l⟩ ok t
 have hA2 := zaL ⟨key, port, l⟩ ok pt
 have hn := ok.len
 dsimp only at hn
 change Fn prog _ [.agg (cfC key port l.length (l.flatMap PE.pv))] _ _ at hC hK
 change Fn prog _ [.agg (cfC key port l.length (l.flatMap PE.pv)), _] (qd (peN t l : Nat)) _ at hA
 change Fn prog _ [.agg (cfC key port l.length (l.flatMap PE.pv)), _] (qd (peN pt l : Nat)) _ at hA2
 change Fn prog _ [.agg [qd 6, qc t, qd n, qe a, qd b]] _ _ at hS
 show Fn prog _ [.agg (cfC key port l.length (l.flatMap PE.pv)), _, .agg [qd 6, qc t, qd n, qe a, qd b]] _ _
 have hL0 : (l.flatMap PE.pv).length = l.length * 5 := zas (f := PE.pv) (k := 5) (fun _ => rfl) l
 have hset := zgj h 1 (qg t) { l[peN pt l] with sh := t } rfl qk
 generalize (l.set (peN pt l) { l[peN pt l] with sh := t }).flatMap PE.pv = L2 at *
 generalize peN pt l = U at *
 clear ok sok hc0 hs0
 generalize l.flatMap PE.pv = L at *
 generalize peN t l = T at *
 refine fnI fun w0 A => ?_
 refine G [16] ?_
 refine cK hC ?_
 refine G [5, 1, 7] ?_
 refine cK hS ?_
 refine G [5, 1, 6] ?_
 refine zaM (fun _ => 40) (hK) rfl rfl F63 rfl rfl qr rfl rfl rfl ql rfl rfl rfl ?_
 refine G [3] ?_
 refine zaE (zaH (zad id [(1, qc pt), (3, .ref 3 0), (5, .ref 5 0), (6, .ref 6 0), (9, .fn 96 []), (12, .ref 12 0)] [(3, .box 24 (cfC key port l.length L)), (5, .box 107 [qd 6, qc t, qd n, qe a, qd b]), (6, .box 24 [qc ⟨#[]⟩, qd 0, qj]), (12, .box 24 [qc key, qd port, .row 40]), (40, .row 48 5 l.length L)] qp qp rfl) ?_)
 refine G [5] ?_
 refine cV hA ?_
 refine G [8] ?_
 refine jcX ?_
 refine G [38] ?_
 refine cV hA2 ?_
 refine G [6, 3, 5, 3, 19] ?_
 exact jbf
theorem ref7_s (key : ByteArray) (port : Int) (l : List PE) (ok : CF.OK ⟨key, port, l⟩) (pt : ByteArray) (t : ByteArray) (n a b : Int) (sok : SE.OK ⟨7, t, n, a, b⟩) (hc0 : cfE ⟨key, port, l⟩ = 0) (hs0 : seE ⟨7, t, n, a, b⟩ = 0) (h0 : pt ≠ ⟨#[]⟩) (h : peN pt l < l.length) : Fn prog 65 [.agg (CF.cells ⟨key, port, l⟩), qc pt, .agg (SE.cells ⟨7, t, n, a, b⟩)] (.tup [.agg [qc key, qd port, .row 0], qc pt, qd 0]) [(0, .row 48 5 l.length ((l.set (peN pt l) { l[peN pt l] with ep := t }).flatMap PE.pv))] := by
 have hC := zaX ⟨key, port, l⟩ ok
 rw [hc0] at hC
 have hS := zaY ⟨7, t, n, a, b⟩ sok
 rw [hs0] at hS
 have hK := za8 ⟨key, port, l⟩ ok
 have hA := zaL ⟨key, port, l⟩ ok t
 have hA2 := zaL ⟨key, port, l⟩ ok pt
 have hn := ok.len
 dsimp only at hn
 change Fn prog _ [.agg (cfC key port l.length (l.flatMap PE.pv))] _ _ at hC hK
 change Fn prog _ [.agg (cfC key port l.length (l.flatMap PE.pv)), _] (qd (peN t l : Nat)) _ at hA
 change Fn prog _ [.agg (cfC key port l.length (l.flatMap PE.pv)), _] (qd (peN pt l : Nat)) _ at hA2
 change Fn prog _ [.agg [qd 7, qc t, qd n, qe a, qd b]] _ _ at hS
 show Fn prog _ [.agg (cfC key port l.length (l.flatMap PE.pv)), _, .agg [qd 7, qc t, qd n, qe a, qd b]] _ _
 have hL0 : (l.flatMap PE.pv).length = l.length * 5 := zas (f := PE.pv) (k := 5) (fun _ => rfl) l
 have hset := zgj h 2 (qg t) { l[peN pt l] with ep := t } rfl qk
 generalize (l.set (peN pt l) { l[peN pt l] with ep := t }).flatMap PE.pv = L2 at *
 generalize peN pt l = U at *
 clear ok sok hc0 hs0
 generalize l.flatMap PE.pv = L at *
 generalize peN t l = T at *
 refine fnI fun w0 A => ?_
 refine G [16] ?_
 refine cK hC ?_
 refine G [5, 1, 7] ?_
 refine cK hS ?_
 refine G [5, 1, 6] ?_
 refine zaM (fun _ => 40) (hK) rfl rfl F63 rfl rfl qr rfl rfl rfl ql rfl rfl rfl ?_
 refine G [3] ?_
 refine zaE (zaH (zad id [(1, qc pt), (3, .ref 3 0), (5, .ref 5 0), (6, .ref 6 0), (9, .fn 96 []), (12, .ref 12 0)] [(3, .box 24 (cfC key port l.length L)), (5, .box 107 [qd 7, qc t, qd n, qe a, qd b]), (6, .box 24 [qc ⟨#[]⟩, qd 0, qj]), (12, .box 24 [qc key, qd port, .row 40]), (40, .row 48 5 l.length L)] qp qp rfl) ?_)
 refine G [5] ?_
 refine cV hA ?_
 refine G [8] ?_
 refine jcX ?_
 refine G [38] ?_
 refine cV hA2 ?_
 refine G [6, 3, 5, 3, 25] ?_
 exact jbf
theorem ref8_s (key : ByteArray) (port : Int) (l : List PE) (ok : CF.OK ⟨key, port, l⟩) (pt : ByteArray) (t : ByteArray) (n a b : Int) (sok : SE.OK ⟨8, t, n, a, b⟩) (hc0 : cfE ⟨key, port, l⟩ = 0) (hs0 : seE ⟨8, t, n, a, b⟩ = 0) (h0 : pt ≠ ⟨#[]⟩) (h : peN pt l < l.length) : Fn prog 65 [.agg (CF.cells ⟨key, port, l⟩), qc pt, .agg (SE.cells ⟨8, t, n, a, b⟩)] (.tup [.agg [qc key, qd port, .row 0], qc pt, qd 0]) [(0, .row 48 5 l.length ((l.set (peN pt l) { l[peN pt l] with al := n }).flatMap PE.pv))] := by
 have hC := zaX ⟨key, port, l⟩ ok
 rw [hc0] at hC
 have hS := zaY ⟨8, t, n, a, b⟩ sok
 rw [hs0] at hS
 have hK := za8 ⟨key, port, l⟩ ok
 have hA := zaL ⟨key, port, l⟩ ok t
 have hA2 := zaL ⟨key, port, l⟩ ok pt
 have hn := ok.len
 dsimp only at hn
 change Fn prog _ [.agg (cfC key port l.length (l.flatMap PE.pv))] _ _ at hC hK
 change Fn prog _ [.agg (cfC key port l.length (l.flatMap PE.pv)), _] (qd (peN t l : Nat)) _ at hA
 change Fn prog _ [.agg (cfC key port l.length (l.flatMap PE.pv)), _] (qd (peN pt l : Nat)) _ at hA2
 change Fn prog _ [.agg [qd 8, qc t, qd n, qe a, qd b]] _ _ at hS
 show Fn prog _ [.agg (cfC key port l.length (l.flatMap PE.pv)), _, .agg [qd 8, qc t, qd n, qe a, qd b]] _ _
 have hL0 : (l.flatMap PE.pv).length = l.length * 5 := zas (f := PE.pv) (k := 5) (fun _ => rfl) l
 have hset := zgj h 3 (qh n) { l[peN pt l] with al := n } rfl qk
 generalize (l.set (peN pt l) { l[peN pt l] with al := n }).flatMap PE.pv = L2 at *
 generalize peN pt l = U at *
 clear ok sok hc0 hs0
 generalize l.flatMap PE.pv = L at *
 generalize peN t l = T at *
 refine fnI fun w0 A => ?_
 refine G [16] ?_
 refine cK hC ?_
 refine G [5, 1, 7] ?_
 refine cK hS ?_
 refine G [5, 1, 6] ?_
 refine zaM (fun _ => 40) (hK) rfl rfl F63 rfl rfl qr rfl rfl rfl ql rfl rfl rfl ?_
 refine G [3] ?_
 refine zaE (zaH (zad id [(1, qc pt), (3, .ref 3 0), (5, .ref 5 0), (6, .ref 6 0), (9, .fn 96 []), (12, .ref 12 0)] [(3, .box 24 (cfC key port l.length L)), (5, .box 107 [qd 8, qc t, qd n, qe a, qd b]), (6, .box 24 [qc ⟨#[]⟩, qd 0, qj]), (12, .box 24 [qc key, qd port, .row 40]), (40, .row 48 5 l.length L)] qp qp rfl) ?_)
 refine G [5] ?_
 refine cV hA ?_
 refine G [8] ?_
 refine jcX ?_
 refine G [38] ?_
 refine cV hA2 ?_
 refine G [6, 3, 5, 3, 31] ?_
 (first | refine zaa zbC rfl rfl ?_ | refine zaa za9 rfl rfl ?_)
 refine G [3] ?_
 skip
 refine G [8] ?_
 refine zab (zbX (Y := qd n) (ys := [qh n]) sz3 rfl rfl rfl qk hset) rfl rfl ⟨rfl, trivial⟩ ?_
 refine G [10, 9, 0] ?_
 refine yT (fun _ => 40) ?_ ?_
 ·exact rfl
 ·exact ⟨⟨rfl, rfl⟩, trivial⟩
theorem ref9_s (key : ByteArray) (port : Int) (l : List PE) (ok : CF.OK ⟨key, port, l⟩) (pt : ByteArray) (t : ByteArray) (n a b : Int) (sok : SE.OK ⟨9, t, n, a, b⟩) (hc0 : cfE ⟨key, port, l⟩ = 0) (hs0 : seE ⟨9, t, n, a, b⟩ = 0) (h0 : pt ≠ ⟨#[]⟩) (h : peN pt l < l.length) : Fn prog 65 [.agg (CF.cells ⟨key, port, l⟩), qc pt, .agg (SE.cells ⟨9, t, n, a, b⟩)] (.tup [.agg [qc key, qd port, .row 0], qc pt, qd 0]) [(0, .row 48 5 l.length ((l.set (peN pt l) { l[peN pt l] with nets := [] }).flatMap PE.pv))] := by
 have hC := zaX ⟨key, port, l⟩ ok
 rw [hc0] at hC
 have hS := zaY ⟨9, t, n, a, b⟩ sok
 rw [hs0] at hS
 have hK := za8 ⟨key, port, l⟩ ok
 have hA := zaL ⟨key, port, l⟩ ok t
 have hA2 := zaL ⟨key, port, l⟩ ok pt
 have hn := ok.len
 dsimp only at hn
 change Fn prog _ [.agg (cfC key port l.length (l.flatMap PE.pv))] _ _ at hC hK
 change Fn prog _ [.agg (cfC key port l.length (l.flatMap PE.pv)), _] (qd (peN t l : Nat)) _ at hA
 change Fn prog _ [.agg (cfC key port l.length (l.flatMap PE.pv)), _] (qd (peN pt l : Nat)) _ at hA2
 change Fn prog _ [.agg [qd 9, qc t, qd n, qe a, qd b]] _ _ at hS
 show Fn prog _ [.agg (cfC key port l.length (l.flatMap PE.pv)), _, .agg [qd 9, qc t, qd n, qe a, qd b]] _ _
 have hL0 : (l.flatMap PE.pv).length = l.length * 5 := zas (f := PE.pv) (k := 5) (fun _ => rfl) l
 have hset := zgj h 4 (.sl 0 2 []) { l[peN pt l] with nets := [] } rfl qk
 generalize (l.set (peN pt l) { l[peN pt l] with nets := [] }).flatMap PE.pv = L2 at *
 generalize peN pt l = U at *
 clear ok sok hc0 hs0
 generalize l.flatMap PE.pv = L at *
 generalize peN t l = T at *
 refine fnI fun w0 A => ?_
 refine G [16] ?_
 refine cK hC ?_
 refine G [5, 1, 7] ?_
 refine cK hS ?_
 refine G [5, 1, 6] ?_
 refine zaM (fun _ => 40) (hK) rfl rfl F63 rfl rfl qr rfl rfl rfl ql rfl rfl rfl ?_
 refine G [3] ?_
 refine zaE (zaH (zad id [(1, qc pt), (3, .ref 3 0), (5, .ref 5 0), (6, .ref 6 0), (9, .fn 96 []), (12, .ref 12 0)] [(3, .box 24 (cfC key port l.length L)), (5, .box 107 [qd 9, qc t, qd n, qe a, qd b]), (6, .box 24 [qc ⟨#[]⟩, qd 0, qj]), (12, .box 24 [qc key, qd port, .row 40]), (40, .row 48 5 l.length L)] qp qp rfl) ?_)
 refine G [5] ?_
 refine cV hA ?_
 refine G [8] ?_
 refine jcX ?_
 refine G [38] ?_
 refine cV hA2 ?_
 refine G [6, 3, 5, 3, 37] ?_
 (first | refine zaa zbC rfl rfl ?_ | refine zaa za9 rfl rfl ?_)
 refine G [3] ?_
 skip
 refine G [6] ?_
 refine zab (zhw (nil_sl (.ref 40 (U * 5 + 4)) 2) (zbX (Y := .p (.sl 0 2 [])) (ys := [.sl 0 2 []]) sz46 rfl rfl rfl qk hset)) rfl rfl ⟨rfl, trivial⟩ ?_
 refine G [10, 9, 0] ?_
 refine yT (fun _ => 40) ?_ ?_
 ·exact rfl
 ·exact ⟨⟨rfl, rfl⟩, trivial⟩
end Go.Proofs.YtlfjpippeeikdaaGreatDoor
