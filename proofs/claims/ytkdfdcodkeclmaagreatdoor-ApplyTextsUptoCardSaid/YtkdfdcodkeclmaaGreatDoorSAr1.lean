/- The reference's ConfCopy and ApplyOne, over data. -/
import Derived.Test.YtkdfdcodkeclmaaGreatDoorSAp2
import Derived.Test.YtkdfdcodkeclmaaGreatDoorSAo1
import Derived.Test.YtkdfdcodkeclmaaGreatDoorSSo1
import Derived.Test.YtkdfdcodkeclmaaGreatDoorSFw
import Derived.Test.YtkdfdcodkeclmaaGreatDoorSBt2
namespace Go.Proofs.YtkdfdcodkeclmaaGreatDoor
open Tryz
open Go.RowKit Go.Sort
set_option linter.unusedVariables false
set_option linter.unusedSimpArgs false
set_option maxRecDepth 100000
theorem newP_view (t : ByteArray) (S : Nat → Prop) (m : Nat → Option Value) (w : World) (us : List Value) (h : RepL S m w [.agg [.p (.v (.string t)), .p (.v (.string ⟨#[]⟩)), .p (.v (.string ⟨#[]⟩)), .p (.v (.int .i64 0)), .p (.v (.slice none 0 0))]] us) : RepL S m w [.agg (newP t).cells] us := by
 simp only [newP, PE.cells, RepL, Rep, PRep, PRepL, List.length_nil, List.flatMap_nil] at h ⊢
 obtain ⟨u, _, rfl, ⟨ua, rfl, ⟨u0, _, rfl, h0, u1, _, rfl, h1, u2, _, rfl, h2, u3, _, rfl, h3, u4, _, rfl, ⟨rfl, _⟩, rfl⟩, h5⟩, rfl⟩ := h
 exact ⟨_, _, rfl, ⟨_, rfl, ⟨u0, _, rfl, h0, u1, _, rfl, h1, u2, _, rfl, h2, u3, _, rfl, h3, _, _, rfl, ⟨none, 0, [], rfl, Nat.le_refl _, by simp, rfl, by simp⟩, rfl⟩, h5⟩, rfl⟩
set_option maxHeartbeats 4000000 in
theorem za0 (c : CF) (ok : c.OK) : Fn prog 26 [.agg c.cells] (.agg [.p (.v (.string c.key)), .p (.v (.int .i64 c.port)), .row 0]) [(0, .row 60 5 c.ps.length (c.ps.flatMap PE.pv))] := by
 obtain ⟨key, port, l⟩ := c
 obtain ⟨hn, ok⟩ := ok
 dsimp only at hn ok
 show Fn prog _ [.agg (cfC key port l.length (l.flatMap PE.pv))] (.agg [.p (.v (.string key)), .p (.v (.int .i64 port)), .row 0]) [(0, .row 60 5 l.length (l.flatMap PE.pv))]
 refine fnI fun w0 A => ?_
 refine G [20] ?_
 refine zaa (zaL U22) rfl rfl ?_
 refine G [3] ?_
 refine zaM (re_nilB 3 2 100 60 5 rfl rfl rfl) ?_
 refine zal (fun m st => ∃ i : Nat, m + i = l.length ∧ st = St.of [(2, .ref 2 0), (3, .ref 3 0), (12, .p (.sl l.length 5 (l.flatMap PE.pv))), (13, .p (.v (.int .i64 l.length))), (14, .p (.v (.int .i64 i)))] [(2, .box 24 [.p (.v (.string ⟨#[]⟩)), .p (.v (.int .i64 0)), .p (.v (.slice none 0 0))]), (3, .box 24 [.p (.v (.string key)), .p (.v (.int .i64 port)), .row 100]), (100, .row 60 5 i ((l.take i).flatMap PE.pv))]) l.length ?_ ?_
 ·refine ⟨_, zak id _ _ ?_ ?_ rfl, 0, by omega, rfl⟩
  ·(repeat (first | exact trivial | (refine ⟨⟨(by first | rfl | (simp; done) | (simp; omega)), rfl⟩, ?_⟩)))
  ·exact ⟨⟨rfl, rfl⟩, ⟨rfl, rfl⟩, ⟨rfl, rfl⟩, trivial⟩
 rintro m st ⟨i, hi, rfl⟩
 refine G [5] ?_
 refine zab _ rfl (fun h => ?_) (fun h => ?_)
 ·have hlt : i < l.length := by simp at h; omega
  clear h
  obtain ⟨p, hp⟩ : ∃ p, l[i]? = some p := ⟨l[i], List.getElem?_eq_getElem hlt⟩
  have hch := zav (f := PE.pv) (k := 5) (fun _ => rfl) hp
  have hle := zau (f := PE.pv) (k := 5) (fun _ => rfl) hlt
  have hpl := (ok p (List.mem_of_getElem? hp)).2
  have hpush := pe_push l i p hp
  have hil : ((l.take i).flatMap PE.pv).length = i * 5 := by rw [zat (f := PE.pv) (k := 5) (fun _ => rfl), List.length_take, Nat.min_eq_left (by omega)]
  generalize hL : l.flatMap PE.pv = L at *
  generalize (l.take i).flatMap PE.pv = T at *
  obtain ⟨pk, sh, ep, al, nn⟩ := p
  dsimp only at hpl
  refine G [5] ?_
  refine zaa (zad U22 sz60 (by omega) (by omega) rfl) rfl rfl ?_
  refine zaa (zaq U60 rfl sz60 (by first | omega | (simp; done) | (simp; omega)) (hch)) rfl rfl ?_
  refine zac (zaV 5 zr60 rfl) rfl rfl ⟨rfl, trivial⟩ ?_
  refine zac (zap (Y := .agg [.p (.v (.string pk)), .p (.v (.string sh)), .p (.v (.string ep)), .p (.v (.int .i64 al)), .p (.sl nn.length 2 (nn.flatMap ntC))]) sz60 rfl rfl (Nat.eq_of_beq_eq_true rfl)) rfl rfl ⟨rfl, trivial⟩ ?_
  refine G [5] ?_
  refine zac (a_appendNil 20 U58 eo27 (src_sl) (by simp only [maxLen]; omega) (by omega)) rfl rfl ⟨rfl, trivial⟩ ?_
  refine fA zbo rfl rfl ?_
  refine zac (za9 (Y := .row _) sz58 rfl (by first | exact Nat.eq_of_beq_eq_true rfl | (simp only [AV.cells, List.length_map]; first | assumption | omega)) (by first | exact Nat.le_of_ble_eq_true rfl | omega | (simp only [AV.cells, List.length_map]; omega)) (by first | (simp only [setR, AV.cells, List.take_succ_cons, List.take_zero, List.drop_succ_cons, List.drop_zero, List.drop_nil, List.take_nil, List.nil_append, List.cons_append, List.append_nil, List.length_cons, List.length_nil, Nat.reduceAdd, Nat.zero_add, Nat.add_zero]; rfl) | rfl)) rfl rfl ⟨rfl, trivial⟩ ?_
  refine zaf ?_
  refine zba (zfA (cs := nn.flatMap ntC) 20 rfl) ?_
  skip
  refine G [4] ?_
  refine zac (zan 25 U22 sz60 zc60 (Nat.le_of_ble_eq_true rfl) (Nat.le_of_ble_eq_true rfl) rfl rfl rfl rfl (Nat.le_of_ble_eq_true rfl)) rfl rfl ⟨rfl, trivial⟩ ?_
  refine zac (zaF 26 U22 eo60 (zbl) (by simp only [maxLen]; omega) (by omega) rfl rfl) rfl rfl ⟨rfl, rfl, rfl, trivial⟩ ?_
  refine fA zfV rfl rfl ?_
  refine zac (za9 (Y := .row _) sz22 rfl (by first | exact Nat.eq_of_beq_eq_true rfl | (simp only [AV.cells, List.length_map]; first | assumption | omega)) (by first | exact Nat.le_of_ble_eq_true rfl | omega | (simp only [AV.cells, List.length_map]; omega)) (by first | (simp only [setR, AV.cells, List.take_succ_cons, List.take_zero, List.drop_succ_cons, List.drop_zero, List.drop_nil, List.take_nil, List.nil_append, List.cons_append, List.append_nil, List.length_cons, List.length_nil, Nat.reduceAdd, Nat.zero_add, Nat.add_zero]; rfl) | rfl)) rfl rfl ⟨rfl, trivial⟩ ?_
  refine G [2] ?_
  refine zaa (zas (by first | exact IntWalk.i64_in _ (by omega) | rfl)) rfl rfl ?_
  refine G [2, 9, 0] ?_
  refine ⟨m - 1, by omega, _, zak (fun o => bif Nat.beq o 100 then 26 else o) [(2, .ref 2 0), (3, .ref 3 0), (12, .p (.sl l.length 5 L)), (13, .p (.v (.int .i64 l.length))), (14, .p (.v (.int .i64 (i + 1 : Nat))))] [(2, .box 24 [.p (.v (.string ⟨#[]⟩)), .p (.v (.int .i64 0)), .p (.v (.slice none 0 0))]), (3, .box 24 [.p (.v (.string key)), .p (.v (.int .i64 port)), .row 100]), (100, .row 60 5 (i + 1) (T ++ [.v (.string pk), .v (.string sh), .v (.string ep), .v (.int .i64 al), .sl nn.length 2 (nn.flatMap ntC)]))] ?_ ?_ rfl, i + 1, by omega, by rw [← hpush]; rfl⟩
  ·(repeat (first | exact trivial | (refine ⟨⟨(by first | rfl | (simp; done) | (simp; omega)), rfl⟩, ?_⟩)))
  ·exact ⟨⟨rfl, rfl⟩, ⟨rfl, rfl⟩, ⟨rfl, rfl⟩, trivial⟩
 have hge : i = l.length := by simp at h; omega
 clear h
 subst hge
 rw [List.take_length]
 refine G [7, 9, 0] ?_
 refine yT (fun _ => 100) ?_ ?_
 ·exact rfl
 ·exact ⟨⟨rfl, rfl⟩, trivial⟩
theorem zdR (e : Int) : Fn prog 23 [.p (.v (.int .i64 e))] (oErr e) [] := by
 show Fn prog _ _ (.tup [.agg [.p (.v (.string ⟨#[]⟩)), .p (.v (.int .i64 0)), .p (.v (.slice none 0 0))], .p (.v (.string ⟨#[]⟩)), .p (.v (.int .i64 e))]) _
 refine fnI fun w0 A => ?_
 refine G [15, 9, 0] ?_
 exact yE
theorem refOne_bad (c : CF) (ok : c.OK) (pt : ByteArray) (s : SE) (sok : s.OK) (h : cfE c ≠ 0) : Fn prog 8 [.agg c.cells, .p (.v (.string pt)), .agg s.cells] (oErr (cfE c)) [] := by
 have hC := zaO c ok
 generalize cfE c = e at *
 obtain ⟨key, port, l⟩ := c
 obtain ⟨k, t, n, a, b⟩ := s
 have hN := zdR (e)
 change Fn prog _ _ (.tup [.agg [.p (.v (.string ⟨#[]⟩)), .p (.v (.int .i64 0)), .p (.v (.slice none 0 0))], .p (.v (.string ⟨#[]⟩)), .p (.v (.int .i64 (e)))]) _ at hN
 show Fn prog _ [.agg (cfC key port l.length (l.flatMap PE.pv)), _, .agg [.p (.v (.int .i64 k)), .p (.v (.string t)), .p (.v (.int .i64 n)), .p (.v (.int .u32 a)), .p (.v (.int .i64 b))]] (.tup [.agg [.p (.v (.string ⟨#[]⟩)), .p (.v (.int .i64 0)), .p (.v (.slice none 0 0))], .p (.v (.string ⟨#[]⟩)), .p (.v (.int .i64 e))]) _
 change Fn prog _ [.agg (cfC key port l.length (l.flatMap PE.pv))] _ _ at hC
 clear ok sok
 generalize l.flatMap PE.pv = L at *
 refine fnI fun w0 A => ?_
 refine G [16] ?_
 refine cK hC ?_
 refine G [5] ?_
 refine zaa (zao (c := true) (by simpa using h)) rfl rfl ?_
 refine G [6] ?_
 refine cK hN ?_
 refine G [8, 9, 0] ?_
 exact yE
theorem refOne_bad2 (c : CF) (ok : c.OK) (pt : ByteArray) (s : SE) (sok : s.OK) (h : cfE c = 0) (h2 : seE s ≠ 0) : Fn prog 8 [.agg c.cells, .p (.v (.string pt)), .agg s.cells] (oErr (seE s)) [] := by
 have hC := zaO c ok
 rw [h] at hC
 have hS := zaK s sok
 generalize seE s = e at *
 obtain ⟨key, port, l⟩ := c
 obtain ⟨k, t, n, a, b⟩ := s
 have hN := zdR (e)
 change Fn prog _ _ (.tup [.agg [.p (.v (.string ⟨#[]⟩)), .p (.v (.int .i64 0)), .p (.v (.slice none 0 0))], .p (.v (.string ⟨#[]⟩)), .p (.v (.int .i64 (e)))]) _ at hN
 show Fn prog _ [.agg (cfC key port l.length (l.flatMap PE.pv)), _, .agg [.p (.v (.int .i64 k)), .p (.v (.string t)), .p (.v (.int .i64 n)), .p (.v (.int .u32 a)), .p (.v (.int .i64 b))]] (.tup [.agg [.p (.v (.string ⟨#[]⟩)), .p (.v (.int .i64 0)), .p (.v (.slice none 0 0))], .p (.v (.string ⟨#[]⟩)), .p (.v (.int .i64 e))]) _
 change Fn prog _ [.agg (cfC key port l.length (l.flatMap PE.pv))] _ _ at hC
 change Fn prog _ [.agg [.p (.v (.int .i64 k)), .p (.v (.string t)), .p (.v (.int .i64 n)), .p (.v (.int .u32 a)), .p (.v (.int .i64 b))]] _ _ at hS
 clear ok sok
 generalize l.flatMap PE.pv = L at *
 refine fnI fun w0 A => ?_
 refine G [16] ?_
 refine cK hC ?_
 refine G [5, 1, 7] ?_
 refine cK hS ?_
 refine G [5] ?_
 refine zaa (zao (c := true) (by simpa using h2)) rfl rfl ?_
 refine G [6] ?_
 refine cK hN ?_
 refine G [8, 9, 0] ?_
 exact yE
set_option maxHeartbeats 8000000 in
theorem ref1a_s (key : ByteArray) (port : Int) (l : List PE) (ok : CF.OK ⟨key, port, l⟩) (pt : ByteArray) (t : ByteArray) (n a b : Int) (sok : SE.OK ⟨1, t, n, a, b⟩) (hc0 : cfE ⟨key, port, l⟩ = 0) (hs0 : seE ⟨1, t, n, a, b⟩ = 0) (h : peN t l < l.length) : Fn prog 8 [.agg (CF.cells ⟨key, port, l⟩), .p (.v (.string pt)), .agg (SE.cells ⟨1, t, n, a, b⟩)] (.tup [.agg [.p (.v (.string ⟨#[]⟩)), .p (.v (.int .i64 0)), .p (.v (.slice none 0 0))], .p (.v (.string ⟨#[]⟩)), .p (.v (.int .i64 14))]) [] := by
 have hC := zaO ⟨key, port, l⟩ ok
 rw [hc0] at hC
 have hS := zaK ⟨1, t, n, a, b⟩ sok
 rw [hs0] at hS
 have hK := za0 ⟨key, port, l⟩ ok
 have hA := zaD ⟨key, port, l⟩ ok t
 have hA2 := zaD ⟨key, port, l⟩ ok pt
 have hn := ok.len
 dsimp only at hn
 change Fn prog _ [.agg (cfC key port l.length (l.flatMap PE.pv))] _ _ at hC hK
 change Fn prog _ [.agg (cfC key port l.length (l.flatMap PE.pv)), _] (.p (.v (.int .i64 (peN t l : Nat)))) _ at hA
 change Fn prog _ [.agg (cfC key port l.length (l.flatMap PE.pv)), _] (.p (.v (.int .i64 (peN pt l : Nat)))) _ at hA2
 change Fn prog _ [.agg [.p (.v (.int .i64 1)), .p (.v (.string t)), .p (.v (.int .i64 n)), .p (.v (.int .u32 a)), .p (.v (.int .i64 b))]] _ _ at hS
 show Fn prog _ [.agg (cfC key port l.length (l.flatMap PE.pv)), _, .agg [.p (.v (.int .i64 1)), .p (.v (.string t)), .p (.v (.int .i64 n)), .p (.v (.int .u32 a)), .p (.v (.int .i64 b))]] _ _
 have hN := zdR (14)
 change Fn prog _ _ (.tup [.agg [.p (.v (.string ⟨#[]⟩)), .p (.v (.int .i64 0)), .p (.v (.slice none 0 0))], .p (.v (.string ⟨#[]⟩)), .p (.v (.int .i64 14))]) _ at hN
 clear ok sok hc0 hs0
 generalize l.flatMap PE.pv = L at *
 generalize peN t l = T at *
 refine fnI fun w0 A => ?_
 refine G [16] ?_
 refine cK hC ?_
 refine G [5, 1, 7] ?_
 refine cK hS ?_
 refine G [5, 1, 6] ?_
 refine zaw (fun _ => 40) (hK) rfl rfl F26 rfl rfl (by first | rfl | simp [AV.okInL, AV.okIn, zaj]) rfl rfl rfl (by first | exact trivial | exact ⟨rfl, trivial⟩ | exact ⟨rfl, rfl, trivial⟩ | exact ⟨rfl, rfl, rfl, rfl, rfl, trivial⟩) rfl rfl rfl ?_
 refine G [3] ?_
 refine zaH (zaM (zak id [(1, .p (.v (.string pt))), (3, .ref 3 0), (5, .ref 5 0), (6, .ref 6 0), (9, .fn 23 []), (12, .ref 12 0)] [(3, .box 24 (cfC key port l.length L)), (5, .box 29 [.p (.v (.int .i64 1)), .p (.v (.string t)), .p (.v (.int .i64 n)), .p (.v (.int .u32 a)), .p (.v (.int .i64 b))]), (6, .box 24 [.p (.v (.string ⟨#[]⟩)), .p (.v (.int .i64 0)), .p (.v (.slice none 0 0))]), (12, .box 24 [.p (.v (.string key)), .p (.v (.int .i64 port)), .row 40]), (40, .row 60 5 l.length L)] (by repeat (first | exact trivial | refine ⟨⟨rfl, rfl⟩, ?_⟩)) (by repeat (first | exact trivial | refine ⟨⟨rfl, rfl⟩, ?_⟩)) rfl) ?_)
 refine G [5] ?_
 refine cV hA ?_
 refine G [7] ?_
 refine zac (zaG U22) rfl rfl ⟨rfl, trivial⟩ ?_
 refine zaa (zaN (c := true) (by first | (simp; done) | (simp; omega))) rfl rfl ?_
 refine G [11] ?_
 (first | refine zaa zbp rfl rfl ?_ | refine zaa zaY rfl rfl ?_)
 refine G [12] ?_
 refine cK hN ?_
 refine G [8, 9, 0] ?_
 exact yE
set_option maxHeartbeats 8000000 in
theorem ref1b_s (key : ByteArray) (port : Int) (l : List PE) (ok : CF.OK ⟨key, port, l⟩) (pt : ByteArray) (t : ByteArray) (n a b : Int) (sok : SE.OK ⟨1, t, n, a, b⟩) (hc0 : cfE ⟨key, port, l⟩ = 0) (hs0 : seE ⟨1, t, n, a, b⟩ = 0) (h : ¬ peN t l < l.length) : Fn prog 8 [.agg (CF.cells ⟨key, port, l⟩), .p (.v (.string pt)), .agg (SE.cells ⟨1, t, n, a, b⟩)] (.tup [.agg [.p (.v (.string t)), .p (.v (.int .i64 port)), .row 0], .p (.v (.string ⟨#[]⟩)), .p (.v (.int .i64 0))]) [(0, .row 60 5 l.length (l.flatMap PE.pv))] := by
 have hC := zaO ⟨key, port, l⟩ ok
 rw [hc0] at hC
 have hS := zaK ⟨1, t, n, a, b⟩ sok
 rw [hs0] at hS
 have hK := za0 ⟨key, port, l⟩ ok
 have hA := zaD ⟨key, port, l⟩ ok t
 have hA2 := zaD ⟨key, port, l⟩ ok pt
 have hn := ok.len
 dsimp only at hn
 change Fn prog _ [.agg (cfC key port l.length (l.flatMap PE.pv))] _ _ at hC hK
 change Fn prog _ [.agg (cfC key port l.length (l.flatMap PE.pv)), _] (.p (.v (.int .i64 (peN t l : Nat)))) _ at hA
 change Fn prog _ [.agg (cfC key port l.length (l.flatMap PE.pv)), _] (.p (.v (.int .i64 (peN pt l : Nat)))) _ at hA2
 change Fn prog _ [.agg [.p (.v (.int .i64 1)), .p (.v (.string t)), .p (.v (.int .i64 n)), .p (.v (.int .u32 a)), .p (.v (.int .i64 b))]] _ _ at hS
 show Fn prog _ [.agg (cfC key port l.length (l.flatMap PE.pv)), _, .agg [.p (.v (.int .i64 1)), .p (.v (.string t)), .p (.v (.int .i64 n)), .p (.v (.int .u32 a)), .p (.v (.int .i64 b))]] _ _
 clear ok sok hc0 hs0
 generalize l.flatMap PE.pv = L at *
 generalize peN t l = T at *
 refine fnI fun w0 A => ?_
 refine G [16] ?_
 refine cK hC ?_
 refine G [5, 1, 7] ?_
 refine cK hS ?_
 refine G [5, 1, 6] ?_
 refine zaw (fun _ => 40) (hK) rfl rfl F26 rfl rfl (by first | rfl | simp [AV.okInL, AV.okIn, zaj]) rfl rfl rfl (by first | exact trivial | exact ⟨rfl, trivial⟩ | exact ⟨rfl, rfl, trivial⟩ | exact ⟨rfl, rfl, rfl, rfl, rfl, trivial⟩) rfl rfl rfl ?_
 refine G [3] ?_
 refine zaH (zaM (zak id [(1, .p (.v (.string pt))), (3, .ref 3 0), (5, .ref 5 0), (6, .ref 6 0), (9, .fn 23 []), (12, .ref 12 0)] [(3, .box 24 (cfC key port l.length L)), (5, .box 29 [.p (.v (.int .i64 1)), .p (.v (.string t)), .p (.v (.int .i64 n)), .p (.v (.int .u32 a)), .p (.v (.int .i64 b))]), (6, .box 24 [.p (.v (.string ⟨#[]⟩)), .p (.v (.int .i64 0)), .p (.v (.slice none 0 0))]), (12, .box 24 [.p (.v (.string key)), .p (.v (.int .i64 port)), .row 40]), (40, .row 60 5 l.length L)] (by repeat (first | exact trivial | refine ⟨⟨rfl, rfl⟩, ?_⟩)) (by repeat (first | exact trivial | refine ⟨⟨rfl, rfl⟩, ?_⟩)) rfl) ?_)
 refine G [5] ?_
 refine cV hA ?_
 refine G [7] ?_
 refine zac (zaG U22) rfl rfl ⟨rfl, trivial⟩ ?_
 refine zaa (zaN (c := false) (by first | (simp; done) | (simp; omega))) rfl rfl ?_
 refine G [11] ?_
 (first | refine zaa zbp rfl rfl ?_ | refine zaa zaY rfl rfl ?_)
 refine G [15] ?_
 refine zac (za9 (Y := .p _) sz9 rfl (by first | exact Nat.eq_of_beq_eq_true rfl | (simp only [AV.cells, List.length_map]; first | assumption | omega)) (by first | exact Nat.le_of_ble_eq_true rfl | omega | (simp only [AV.cells, List.length_map]; omega)) (by first | (simp only [setR, AV.cells, List.take_succ_cons, List.take_zero, List.drop_succ_cons, List.drop_zero, List.drop_nil, List.take_nil, List.nil_append, List.cons_append, List.append_nil, List.length_cons, List.length_nil, Nat.reduceAdd, Nat.zero_add, Nat.add_zero]; rfl) | rfl)) rfl rfl ⟨rfl, trivial⟩ ?_
 refine G [9, 9, 0] ?_
 refine yT (fun _ => 40) ?_ ?_
 ·exact rfl
 ·exact ⟨⟨rfl, rfl⟩, trivial⟩
set_option maxHeartbeats 8000000 in
theorem ref2_s (key : ByteArray) (port : Int) (l : List PE) (ok : CF.OK ⟨key, port, l⟩) (pt : ByteArray) (t : ByteArray) (n a b : Int) (sok : SE.OK ⟨2, t, n, a, b⟩) (hc0 : cfE ⟨key, port, l⟩ = 0) (hs0 : seE ⟨2, t, n, a, b⟩ = 0) : Fn prog 8 [.agg (CF.cells ⟨key, port, l⟩), .p (.v (.string pt)), .agg (SE.cells ⟨2, t, n, a, b⟩)] (.tup [.agg [.p (.v (.string key)), .p (.v (.int .i64 n)), .row 0], .p (.v (.string ⟨#[]⟩)), .p (.v (.int .i64 0))]) [(0, .row 60 5 l.length (l.flatMap PE.pv))] := by
 have hC := zaO ⟨key, port, l⟩ ok
 rw [hc0] at hC
 have hS := zaK ⟨2, t, n, a, b⟩ sok
 rw [hs0] at hS
 have hK := za0 ⟨key, port, l⟩ ok
 have hA := zaD ⟨key, port, l⟩ ok t
 have hA2 := zaD ⟨key, port, l⟩ ok pt
 have hn := ok.len
 dsimp only at hn
 change Fn prog _ [.agg (cfC key port l.length (l.flatMap PE.pv))] _ _ at hC hK
 change Fn prog _ [.agg (cfC key port l.length (l.flatMap PE.pv)), _] (.p (.v (.int .i64 (peN t l : Nat)))) _ at hA
 change Fn prog _ [.agg (cfC key port l.length (l.flatMap PE.pv)), _] (.p (.v (.int .i64 (peN pt l : Nat)))) _ at hA2
 change Fn prog _ [.agg [.p (.v (.int .i64 2)), .p (.v (.string t)), .p (.v (.int .i64 n)), .p (.v (.int .u32 a)), .p (.v (.int .i64 b))]] _ _ at hS
 show Fn prog _ [.agg (cfC key port l.length (l.flatMap PE.pv)), _, .agg [.p (.v (.int .i64 2)), .p (.v (.string t)), .p (.v (.int .i64 n)), .p (.v (.int .u32 a)), .p (.v (.int .i64 b))]] _ _
 clear ok sok hc0 hs0
 generalize l.flatMap PE.pv = L at *
 generalize peN t l = T at *
 refine fnI fun w0 A => ?_
 refine G [16] ?_
 refine cK hC ?_
 refine G [5, 1, 7] ?_
 refine cK hS ?_
 refine G [5, 1, 6] ?_
 refine zaw (fun _ => 40) (hK) rfl rfl F26 rfl rfl (by first | rfl | simp [AV.okInL, AV.okIn, zaj]) rfl rfl rfl (by first | exact trivial | exact ⟨rfl, trivial⟩ | exact ⟨rfl, rfl, trivial⟩ | exact ⟨rfl, rfl, rfl, rfl, rfl, trivial⟩) rfl rfl rfl ?_
 refine G [3] ?_
 refine zaH (zaM (zak id [(1, .p (.v (.string pt))), (3, .ref 3 0), (5, .ref 5 0), (6, .ref 6 0), (9, .fn 23 []), (12, .ref 12 0)] [(3, .box 24 (cfC key port l.length L)), (5, .box 29 [.p (.v (.int .i64 2)), .p (.v (.string t)), .p (.v (.int .i64 n)), .p (.v (.int .u32 a)), .p (.v (.int .i64 b))]), (6, .box 24 [.p (.v (.string ⟨#[]⟩)), .p (.v (.int .i64 0)), .p (.v (.slice none 0 0))]), (12, .box 24 [.p (.v (.string key)), .p (.v (.int .i64 port)), .row 40]), (40, .row 60 5 l.length L)] (by repeat (first | exact trivial | refine ⟨⟨rfl, rfl⟩, ?_⟩)) (by repeat (first | exact trivial | refine ⟨⟨rfl, rfl⟩, ?_⟩)) rfl) ?_)
 refine G [5] ?_
 refine cV hA ?_
 refine G [7] ?_
 refine zac (zaG U22) rfl rfl ⟨rfl, trivial⟩ ?_
 refine zaa (zaN (c := decide (T < l.length)) (by first | (simp; done) | (simp; omega))) rfl rfl ?_
 refine G [17] ?_
 (first | refine zaa zbp rfl rfl ?_ | refine zaa zaY rfl rfl ?_)
 refine G [8] ?_
 refine zac (za9 (Y := .p _) sz3 rfl (by first | exact Nat.eq_of_beq_eq_true rfl | (simp only [AV.cells, List.length_map]; first | assumption | omega)) (by first | exact Nat.le_of_ble_eq_true rfl | omega | (simp only [AV.cells, List.length_map]; omega)) (by first | (simp only [setR, AV.cells, List.take_succ_cons, List.take_zero, List.drop_succ_cons, List.drop_zero, List.drop_nil, List.take_nil, List.nil_append, List.cons_append, List.append_nil, List.length_cons, List.length_nil, Nat.reduceAdd, Nat.zero_add, Nat.add_zero]; rfl) | rfl)) rfl rfl ⟨rfl, trivial⟩ ?_
 refine G [9, 9, 0] ?_
 refine yT (fun _ => 40) ?_ ?_
 ·exact rfl
 ·exact ⟨⟨rfl, rfl⟩, trivial⟩
set_option maxHeartbeats 8000000 in
theorem ref3_s (key : ByteArray) (port : Int) (l : List PE) (ok : CF.OK ⟨key, port, l⟩) (pt : ByteArray) (t : ByteArray) (n a b : Int) (sok : SE.OK ⟨3, t, n, a, b⟩) (hc0 : cfE ⟨key, port, l⟩ = 0) (hs0 : seE ⟨3, t, n, a, b⟩ = 0) : Fn prog 8 [.agg (CF.cells ⟨key, port, l⟩), .p (.v (.string pt)), .agg (SE.cells ⟨3, t, n, a, b⟩)] (.tup [.agg [.p (.v (.string key)), .p (.v (.int .i64 port)), .p (.sl 0 5 [])], .p (.v (.string ⟨#[]⟩)), .p (.v (.int .i64 0))]) [] := by
 have hC := zaO ⟨key, port, l⟩ ok
 rw [hc0] at hC
 have hS := zaK ⟨3, t, n, a, b⟩ sok
 rw [hs0] at hS
 have hK := za0 ⟨key, port, l⟩ ok
 have hA := zaD ⟨key, port, l⟩ ok t
 have hA2 := zaD ⟨key, port, l⟩ ok pt
 have hn := ok.len
 dsimp only at hn
 change Fn prog _ [.agg (cfC key port l.length (l.flatMap PE.pv))] _ _ at hC hK
 change Fn prog _ [.agg (cfC key port l.length (l.flatMap PE.pv)), _] (.p (.v (.int .i64 (peN t l : Nat)))) _ at hA
 change Fn prog _ [.agg (cfC key port l.length (l.flatMap PE.pv)), _] (.p (.v (.int .i64 (peN pt l : Nat)))) _ at hA2
 change Fn prog _ [.agg [.p (.v (.int .i64 3)), .p (.v (.string t)), .p (.v (.int .i64 n)), .p (.v (.int .u32 a)), .p (.v (.int .i64 b))]] _ _ at hS
 show Fn prog _ [.agg (cfC key port l.length (l.flatMap PE.pv)), _, .agg [.p (.v (.int .i64 3)), .p (.v (.string t)), .p (.v (.int .i64 n)), .p (.v (.int .u32 a)), .p (.v (.int .i64 b))]] _ _
 clear ok sok hc0 hs0
 generalize l.flatMap PE.pv = L at *
 generalize peN t l = T at *
 refine fnI fun w0 A => ?_
 refine G [16] ?_
 refine cK hC ?_
 refine G [5, 1, 7] ?_
 refine cK hS ?_
 refine G [5, 1, 6] ?_
 refine zaw (fun _ => 40) (hK) rfl rfl F26 rfl rfl (by first | rfl | simp [AV.okInL, AV.okIn, zaj]) rfl rfl rfl (by first | exact trivial | exact ⟨rfl, trivial⟩ | exact ⟨rfl, rfl, trivial⟩ | exact ⟨rfl, rfl, rfl, rfl, rfl, trivial⟩) rfl rfl rfl ?_
 refine G [3] ?_
 refine zaH (zaM (zak id [(1, .p (.v (.string pt))), (3, .ref 3 0), (5, .ref 5 0), (6, .ref 6 0), (9, .fn 23 []), (12, .ref 12 0)] [(3, .box 24 (cfC key port l.length L)), (5, .box 29 [.p (.v (.int .i64 3)), .p (.v (.string t)), .p (.v (.int .i64 n)), .p (.v (.int .u32 a)), .p (.v (.int .i64 b))]), (6, .box 24 [.p (.v (.string ⟨#[]⟩)), .p (.v (.int .i64 0)), .p (.v (.slice none 0 0))]), (12, .box 24 [.p (.v (.string key)), .p (.v (.int .i64 port)), .row 40]), (40, .row 60 5 l.length L)] (by repeat (first | exact trivial | refine ⟨⟨rfl, rfl⟩, ?_⟩)) (by repeat (first | exact trivial | refine ⟨⟨rfl, rfl⟩, ?_⟩)) rfl) ?_)
 refine G [5] ?_
 refine cV hA ?_
 refine G [7] ?_
 refine zac (zaG U22) rfl rfl ⟨rfl, trivial⟩ ?_
 refine zaa (zaN (c := decide (T < l.length)) (by first | (simp; done) | (simp; omega))) rfl rfl ?_
 refine G [23] ?_
 (first | refine zaa zbp rfl rfl ?_ | refine zaa zaY rfl rfl ?_)
 refine G [6] ?_
 refine zac (zf3 (nil_sl (.ref 12 (0 + 2)) 5) (za9 (es := [.p (.v (.string key)), .p (.v (.int .i64 port)), .p (.sl 0 5 [])]) sz22 rfl rfl (Nat.le_of_ble_eq_true rfl) rfl)) rfl rfl ⟨rfl, trivial⟩ ?_
 refine G [9, 9, 0] ?_
 exact yE
set_option maxHeartbeats 8000000 in
theorem ref4own_s (key : ByteArray) (port : Int) (l : List PE) (ok : CF.OK ⟨key, port, l⟩) (pt : ByteArray) (t : ByteArray) (n a b : Int) (sok : SE.OK ⟨4, t, n, a, b⟩) (hc0 : cfE ⟨key, port, l⟩ = 0) (hs0 : seE ⟨4, t, n, a, b⟩ = 0) (h : t = key) : Fn prog 8 [.agg (CF.cells ⟨key, port, l⟩), .p (.v (.string pt)), .agg (SE.cells ⟨4, t, n, a, b⟩)] (.tup [.agg [.p (.v (.string ⟨#[]⟩)), .p (.v (.int .i64 0)), .p (.v (.slice none 0 0))], .p (.v (.string ⟨#[]⟩)), .p (.v (.int .i64 14))]) [] := by
 have hC := zaO ⟨key, port, l⟩ ok
 rw [hc0] at hC
 have hS := zaK ⟨4, t, n, a, b⟩ sok
 rw [hs0] at hS
 have hK := za0 ⟨key, port, l⟩ ok
 have hA := zaD ⟨key, port, l⟩ ok t
 have hA2 := zaD ⟨key, port, l⟩ ok pt
 have hn := ok.len
 dsimp only at hn
 change Fn prog _ [.agg (cfC key port l.length (l.flatMap PE.pv))] _ _ at hC hK
 change Fn prog _ [.agg (cfC key port l.length (l.flatMap PE.pv)), _] (.p (.v (.int .i64 (peN t l : Nat)))) _ at hA
 change Fn prog _ [.agg (cfC key port l.length (l.flatMap PE.pv)), _] (.p (.v (.int .i64 (peN pt l : Nat)))) _ at hA2
 change Fn prog _ [.agg [.p (.v (.int .i64 4)), .p (.v (.string t)), .p (.v (.int .i64 n)), .p (.v (.int .u32 a)), .p (.v (.int .i64 b))]] _ _ at hS
 show Fn prog _ [.agg (cfC key port l.length (l.flatMap PE.pv)), _, .agg [.p (.v (.int .i64 4)), .p (.v (.string t)), .p (.v (.int .i64 n)), .p (.v (.int .u32 a)), .p (.v (.int .i64 b))]] _ _
 have hN := zdR (14)
 change Fn prog _ _ (.tup [.agg [.p (.v (.string ⟨#[]⟩)), .p (.v (.int .i64 0)), .p (.v (.slice none 0 0))], .p (.v (.string ⟨#[]⟩)), .p (.v (.int .i64 14))]) _ at hN
 clear ok sok hc0 hs0
 generalize l.flatMap PE.pv = L at *
 generalize peN t l = T at *
 refine fnI fun w0 A => ?_
 refine G [16] ?_
 refine cK hC ?_
 refine G [5, 1, 7] ?_
 refine cK hS ?_
 refine G [5, 1, 6] ?_
 refine zaw (fun _ => 40) (hK) rfl rfl F26 rfl rfl (by first | rfl | simp [AV.okInL, AV.okIn, zaj]) rfl rfl rfl (by first | exact trivial | exact ⟨rfl, trivial⟩ | exact ⟨rfl, rfl, trivial⟩ | exact ⟨rfl, rfl, rfl, rfl, rfl, trivial⟩) rfl rfl rfl ?_
 refine G [3] ?_
 refine zaH (zaM (zak id [(1, .p (.v (.string pt))), (3, .ref 3 0), (5, .ref 5 0), (6, .ref 6 0), (9, .fn 23 []), (12, .ref 12 0)] [(3, .box 24 (cfC key port l.length L)), (5, .box 29 [.p (.v (.int .i64 4)), .p (.v (.string t)), .p (.v (.int .i64 n)), .p (.v (.int .u32 a)), .p (.v (.int .i64 b))]), (6, .box 24 [.p (.v (.string ⟨#[]⟩)), .p (.v (.int .i64 0)), .p (.v (.slice none 0 0))]), (12, .box 24 [.p (.v (.string key)), .p (.v (.int .i64 port)), .row 40]), (40, .row 60 5 l.length L)] (by repeat (first | exact trivial | refine ⟨⟨rfl, rfl⟩, ?_⟩)) (by repeat (first | exact trivial | refine ⟨⟨rfl, rfl⟩, ?_⟩)) rfl) ?_)
 refine G [5] ?_
 refine cV hA ?_
 refine G [7] ?_
 refine zac (zaG U22) rfl rfl ⟨rfl, trivial⟩ ?_
 refine zaa (zaN (c := decide (T < l.length)) (by first | (simp; done) | (simp; omega))) rfl rfl ?_
 refine G [29] ?_
 (first | refine zaa zbp rfl rfl ?_ | refine zaa zaY rfl rfl ?_)
 refine G [10] ?_
 refine zaa (zah (c := true) (by simp [h])) rfl rfl ?_
 refine G [5] ?_
 refine cK hN ?_
 refine G [8, 9, 0] ?_
 exact yE
set_option maxHeartbeats 8000000 in
theorem ref4old_s (key : ByteArray) (port : Int) (l : List PE) (ok : CF.OK ⟨key, port, l⟩) (pt : ByteArray) (t : ByteArray) (n a b : Int) (sok : SE.OK ⟨4, t, n, a, b⟩) (hc0 : cfE ⟨key, port, l⟩ = 0) (hs0 : seE ⟨4, t, n, a, b⟩ = 0) (h0 : t ≠ key) (h : peN t l < l.length) : Fn prog 8 [.agg (CF.cells ⟨key, port, l⟩), .p (.v (.string pt)), .agg (SE.cells ⟨4, t, n, a, b⟩)] (.tup [.agg [.p (.v (.string key)), .p (.v (.int .i64 port)), .row 0], .p (.v (.string t)), .p (.v (.int .i64 0))]) [(0, .row 60 5 l.length (l.flatMap PE.pv))] := by
 have hC := zaO ⟨key, port, l⟩ ok
 rw [hc0] at hC
 have hS := zaK ⟨4, t, n, a, b⟩ sok
 rw [hs0] at hS
 have hK := za0 ⟨key, port, l⟩ ok
 have hA := zaD ⟨key, port, l⟩ ok t
 have hA2 := zaD ⟨key, port, l⟩ ok pt
 have hn := ok.len
 dsimp only at hn
 change Fn prog _ [.agg (cfC key port l.length (l.flatMap PE.pv))] _ _ at hC hK
 change Fn prog _ [.agg (cfC key port l.length (l.flatMap PE.pv)), _] (.p (.v (.int .i64 (peN t l : Nat)))) _ at hA
 change Fn prog _ [.agg (cfC key port l.length (l.flatMap PE.pv)), _] (.p (.v (.int .i64 (peN pt l : Nat)))) _ at hA2
 change Fn prog _ [.agg [.p (.v (.int .i64 4)), .p (.v (.string t)), .p (.v (.int .i64 n)), .p (.v (.int .u32 a)), .p (.v (.int .i64 b))]] _ _ at hS
 show Fn prog _ [.agg (cfC key port l.length (l.flatMap PE.pv)), _, .agg [.p (.v (.int .i64 4)), .p (.v (.string t)), .p (.v (.int .i64 n)), .p (.v (.int .u32 a)), .p (.v (.int .i64 b))]] _ _
 clear ok sok hc0 hs0
 generalize l.flatMap PE.pv = L at *
 generalize peN t l = T at *
 refine fnI fun w0 A => ?_
 refine G [16] ?_
 refine cK hC ?_
 refine G [5, 1, 7] ?_
 refine cK hS ?_
 refine G [5, 1, 6] ?_
 refine zaw (fun _ => 40) (hK) rfl rfl F26 rfl rfl (by first | rfl | simp [AV.okInL, AV.okIn, zaj]) rfl rfl rfl (by first | exact trivial | exact ⟨rfl, trivial⟩ | exact ⟨rfl, rfl, trivial⟩ | exact ⟨rfl, rfl, rfl, rfl, rfl, trivial⟩) rfl rfl rfl ?_
 refine G [3] ?_
 refine zaH (zaM (zak id [(1, .p (.v (.string pt))), (3, .ref 3 0), (5, .ref 5 0), (6, .ref 6 0), (9, .fn 23 []), (12, .ref 12 0)] [(3, .box 24 (cfC key port l.length L)), (5, .box 29 [.p (.v (.int .i64 4)), .p (.v (.string t)), .p (.v (.int .i64 n)), .p (.v (.int .u32 a)), .p (.v (.int .i64 b))]), (6, .box 24 [.p (.v (.string ⟨#[]⟩)), .p (.v (.int .i64 0)), .p (.v (.slice none 0 0))]), (12, .box 24 [.p (.v (.string key)), .p (.v (.int .i64 port)), .row 40]), (40, .row 60 5 l.length L)] (by repeat (first | exact trivial | refine ⟨⟨rfl, rfl⟩, ?_⟩)) (by repeat (first | exact trivial | refine ⟨⟨rfl, rfl⟩, ?_⟩)) rfl) ?_)
 refine G [5] ?_
 refine cV hA ?_
 refine G [7] ?_
 refine zac (zaG U22) rfl rfl ⟨rfl, trivial⟩ ?_
 refine zaa (zaN (c := true) (by first | (simp; done) | (simp; omega))) rfl rfl ?_
 refine G [29] ?_
 (first | refine zaa zbp rfl rfl ?_ | refine zaa zaY rfl rfl ?_)
 refine G [10] ?_
 refine zaa (zah (c := false) (by simp [h0])) rfl rfl ?_
 refine G [35, 9, 0] ?_
 refine yT (fun _ => 40) ?_ ?_
 ·exact rfl
 ·exact ⟨⟨rfl, rfl⟩, trivial⟩
set_option maxHeartbeats 8000000 in
theorem ref4full_s (key : ByteArray) (port : Int) (l : List PE) (ok : CF.OK ⟨key, port, l⟩) (pt : ByteArray) (t : ByteArray) (n a b : Int) (sok : SE.OK ⟨4, t, n, a, b⟩) (hc0 : cfE ⟨key, port, l⟩ = 0) (hs0 : seE ⟨4, t, n, a, b⟩ = 0) (h0 : t ≠ key) (h : ¬ peN t l < l.length) (h2 : l.length = 6) : Fn prog 8 [.agg (CF.cells ⟨key, port, l⟩), .p (.v (.string pt)), .agg (SE.cells ⟨4, t, n, a, b⟩)] (.tup [.agg [.p (.v (.string ⟨#[]⟩)), .p (.v (.int .i64 0)), .p (.v (.slice none 0 0))], .p (.v (.string ⟨#[]⟩)), .p (.v (.int .i64 7))]) [] := by
 have hC := zaO ⟨key, port, l⟩ ok
 rw [hc0] at hC
 have hS := zaK ⟨4, t, n, a, b⟩ sok
 rw [hs0] at hS
 have hK := za0 ⟨key, port, l⟩ ok
 have hA := zaD ⟨key, port, l⟩ ok t
 have hA2 := zaD ⟨key, port, l⟩ ok pt
 have hn := ok.len
 dsimp only at hn
 change Fn prog _ [.agg (cfC key port l.length (l.flatMap PE.pv))] _ _ at hC hK
 change Fn prog _ [.agg (cfC key port l.length (l.flatMap PE.pv)), _] (.p (.v (.int .i64 (peN t l : Nat)))) _ at hA
 change Fn prog _ [.agg (cfC key port l.length (l.flatMap PE.pv)), _] (.p (.v (.int .i64 (peN pt l : Nat)))) _ at hA2
 change Fn prog _ [.agg [.p (.v (.int .i64 4)), .p (.v (.string t)), .p (.v (.int .i64 n)), .p (.v (.int .u32 a)), .p (.v (.int .i64 b))]] _ _ at hS
 show Fn prog _ [.agg (cfC key port l.length (l.flatMap PE.pv)), _, .agg [.p (.v (.int .i64 4)), .p (.v (.string t)), .p (.v (.int .i64 n)), .p (.v (.int .u32 a)), .p (.v (.int .i64 b))]] _ _
 have hN := zdR (7)
 change Fn prog _ _ (.tup [.agg [.p (.v (.string ⟨#[]⟩)), .p (.v (.int .i64 0)), .p (.v (.slice none 0 0))], .p (.v (.string ⟨#[]⟩)), .p (.v (.int .i64 7))]) _ at hN
 clear ok sok hc0 hs0
 generalize l.flatMap PE.pv = L at *
 generalize peN t l = T at *
 refine fnI fun w0 A => ?_
 refine G [16] ?_
 refine cK hC ?_
 refine G [5, 1, 7] ?_
 refine cK hS ?_
 refine G [5, 1, 6] ?_
 refine zaw (fun _ => 40) (hK) rfl rfl F26 rfl rfl (by first | rfl | simp [AV.okInL, AV.okIn, zaj]) rfl rfl rfl (by first | exact trivial | exact ⟨rfl, trivial⟩ | exact ⟨rfl, rfl, trivial⟩ | exact ⟨rfl, rfl, rfl, rfl, rfl, trivial⟩) rfl rfl rfl ?_
 refine G [3] ?_
 refine zaH (zaM (zak id [(1, .p (.v (.string pt))), (3, .ref 3 0), (5, .ref 5 0), (6, .ref 6 0), (9, .fn 23 []), (12, .ref 12 0)] [(3, .box 24 (cfC key port l.length L)), (5, .box 29 [.p (.v (.int .i64 4)), .p (.v (.string t)), .p (.v (.int .i64 n)), .p (.v (.int .u32 a)), .p (.v (.int .i64 b))]), (6, .box 24 [.p (.v (.string ⟨#[]⟩)), .p (.v (.int .i64 0)), .p (.v (.slice none 0 0))]), (12, .box 24 [.p (.v (.string key)), .p (.v (.int .i64 port)), .row 40]), (40, .row 60 5 l.length L)] (by repeat (first | exact trivial | refine ⟨⟨rfl, rfl⟩, ?_⟩)) (by repeat (first | exact trivial | refine ⟨⟨rfl, rfl⟩, ?_⟩)) rfl) ?_)
 refine G [5] ?_
 refine cV hA ?_
 refine G [7] ?_
 refine zac (zaG U22) rfl rfl ⟨rfl, trivial⟩ ?_
 refine zaa (zaN (c := false) (by first | (simp; done) | (simp; omega))) rfl rfl ?_
 refine G [29, 1, 10] ?_
 refine zaa (zah (c := false) (by simp [h0])) rfl rfl ?_
 refine G [11] ?_
 refine zac (zaG U22) rfl rfl ⟨rfl, trivial⟩ ?_
 refine zaa (zbk (c := true) (by simp [h2])) rfl rfl ?_
 refine G [6] ?_
 refine cK hN ?_
 refine G [8, 9, 0] ?_
 exact yE
set_option maxHeartbeats 8000000 in
theorem ref4new_s (key : ByteArray) (port : Int) (l : List PE) (ok : CF.OK ⟨key, port, l⟩) (pt : ByteArray) (t : ByteArray) (n a b : Int) (sok : SE.OK ⟨4, t, n, a, b⟩) (hc0 : cfE ⟨key, port, l⟩ = 0) (hs0 : seE ⟨4, t, n, a, b⟩ = 0) (h0 : t ≠ key) (h : ¬ peN t l < l.length) (h2 : l.length < 6) : Fn prog 8 [.agg (CF.cells ⟨key, port, l⟩), .p (.v (.string pt)), .agg (SE.cells ⟨4, t, n, a, b⟩)] (.tup [.agg [.p (.v (.string key)), .p (.v (.int .i64 port)), .row 0], .p (.v (.string t)), .p (.v (.int .i64 0))]) [(0, .row 60 5 (l.length + 1) ((zb6 gtP (l ++ [newP t])).flatMap PE.pv))] := by
 have hC := zaO ⟨key, port, l⟩ ok
 rw [hc0] at hC
 have hS := zaK ⟨4, t, n, a, b⟩ sok
 rw [hs0] at hS
 have hK := za0 ⟨key, port, l⟩ ok
 have hA := zaD ⟨key, port, l⟩ ok t
 have hA2 := zaD ⟨key, port, l⟩ ok pt
 have hn := ok.len
 dsimp only at hn
 change Fn prog _ [.agg (cfC key port l.length (l.flatMap PE.pv))] _ _ at hC hK
 change Fn prog _ [.agg (cfC key port l.length (l.flatMap PE.pv)), _] (.p (.v (.int .i64 (peN t l : Nat)))) _ at hA
 change Fn prog _ [.agg (cfC key port l.length (l.flatMap PE.pv)), _] (.p (.v (.int .i64 (peN pt l : Nat)))) _ at hA2
 change Fn prog _ [.agg [.p (.v (.int .i64 4)), .p (.v (.string t)), .p (.v (.int .i64 n)), .p (.v (.int .u32 a)), .p (.v (.int .i64 b))]] _ _ at hS
 show Fn prog _ [.agg (cfC key port l.length (l.flatMap PE.pv)), _, .agg [.p (.v (.int .i64 4)), .p (.v (.string t)), .p (.v (.int .i64 n)), .p (.v (.int .u32 a)), .p (.v (.int .i64 b))]] _ _
 have hSo := sortedP_s (l ++ [newP t]) (by rw [List.length_append]; simp; omega)
 have hap : l.flatMap PE.pv ++ (newP t).pv = (l ++ [newP t]).flatMap PE.pv := by rw [List.flatMap_append]; simp
 rw [show (l ++ [newP t]).length = l.length + 1 by simp] at hSo
 generalize (zb6 gtP (l ++ [newP t])).flatMap PE.pv = L2 at *
 generalize (l ++ [newP t]).flatMap PE.pv = L3 at *
 clear ok sok hc0 hs0
 generalize l.flatMap PE.pv = L at *
 generalize peN t l = T at *
 refine fnI fun w0 A => ?_
 refine G [16] ?_
 refine cK hC ?_
 refine G [5, 1, 7] ?_
 refine cK hS ?_
 refine G [5, 1, 6] ?_
 refine zaw (fun _ => 40) (hK) rfl rfl F26 rfl rfl (by first | rfl | simp [AV.okInL, AV.okIn, zaj]) rfl rfl rfl (by first | exact trivial | exact ⟨rfl, trivial⟩ | exact ⟨rfl, rfl, trivial⟩ | exact ⟨rfl, rfl, rfl, rfl, rfl, trivial⟩) rfl rfl rfl ?_
 refine G [3] ?_
 refine zaH (zaM (zak id [(1, .p (.v (.string pt))), (3, .ref 3 0), (5, .ref 5 0), (6, .ref 6 0), (9, .fn 23 []), (12, .ref 12 0)] [(3, .box 24 (cfC key port l.length L)), (5, .box 29 [.p (.v (.int .i64 4)), .p (.v (.string t)), .p (.v (.int .i64 n)), .p (.v (.int .u32 a)), .p (.v (.int .i64 b))]), (6, .box 24 [.p (.v (.string ⟨#[]⟩)), .p (.v (.int .i64 0)), .p (.v (.slice none 0 0))]), (12, .box 24 [.p (.v (.string key)), .p (.v (.int .i64 port)), .row 40]), (40, .row 60 5 l.length L)] (by repeat (first | exact trivial | refine ⟨⟨rfl, rfl⟩, ?_⟩)) (by repeat (first | exact trivial | refine ⟨⟨rfl, rfl⟩, ?_⟩)) rfl) ?_)
 refine G [5] ?_
 refine cV hA ?_
 refine G [7] ?_
 refine zac (zaG U22) rfl rfl ⟨rfl, trivial⟩ ?_
 refine zaa (zaN (c := false) (by first | (simp; done) | (simp; omega))) rfl rfl ?_
 refine G [29, 1, 10] ?_
 refine zaa (zah (c := false) (by simp [h0])) rfl rfl ?_
 refine G [11] ?_
 refine zac (zaG U22) rfl rfl ⟨rfl, trivial⟩ ?_
 refine zaa (zbk (c := false) (by simp; omega)) rfl rfl ?_
 refine G [11] ?_
 skip
 refine G [6] ?_
 refine zac (zf3 (newP_view t) (zan (es := (newP t).cells) (cs := (newP t).pv) (xs := [.agg (newP t).cells]) 106 U22 sz60 zc60 (Nat.le_of_ble_eq_true rfl) (Nat.le_of_ble_eq_true rfl) rfl rfl rfl rfl (Nat.le_of_ble_eq_true rfl))) rfl rfl ⟨rfl, trivial⟩ ?_
 refine zac (zaF 107 U22 eo60 (zbl) (by simp only [maxLen]; omega) (by omega) rfl hap) rfl rfl ⟨rfl, rfl, rfl, trivial⟩ ?_
 refine r_callW (fun n => 108 + 1000 * n) (hSo) rfl rfl func28 rfl rfl rfl rfl rfl rfl rfl (by first | exact trivial | exact ⟨rfl, trivial⟩ | exact ⟨rfl, rfl, trivial⟩ | exact ⟨rfl, rfl, rfl, rfl, rfl, trivial⟩) rfl rfl rfl ?_
 refine fA zfV rfl rfl ?_
 refine zac (za9 (Y := .row _) sz22 rfl (by first | exact Nat.eq_of_beq_eq_true rfl | (simp only [AV.cells, List.length_map]; first | assumption | omega)) (by first | exact Nat.le_of_ble_eq_true rfl | omega | (simp only [AV.cells, List.length_map]; omega)) (by first | (simp only [setR, AV.cells, List.take_succ_cons, List.take_zero, List.drop_succ_cons, List.drop_zero, List.drop_nil, List.take_nil, List.nil_append, List.cons_append, List.append_nil, List.length_cons, List.length_nil, Nat.reduceAdd, Nat.zero_add, Nat.add_zero]; rfl) | rfl)) rfl rfl ⟨rfl, trivial⟩ ?_
 refine G [11, 9, 0] ?_
 refine yT (fun _ => 108) ?_ ?_
 ·exact rfl
 ·exact ⟨⟨rfl, rfl⟩, trivial⟩
set_option maxHeartbeats 8000000 in
theorem zcT (k : Int) (key : ByteArray) (port : Int) (l : List PE) (ok : CF.OK ⟨key, port, l⟩) (pt : ByteArray) (t : ByteArray) (n a b : Int) (sok : SE.OK ⟨k, t, n, a, b⟩) (hc0 : cfE ⟨key, port, l⟩ = 0) (hs0 : seE ⟨k, t, n, a, b⟩ = 0) (h1 : k ≠ 1) (h2 : k ≠ 2) (h3 : k ≠ 3) (h4 : k ≠ 4) (h : pt = ⟨#[]⟩ ∨ ¬ peN pt l < l.length) : Fn prog 8 [.agg (CF.cells ⟨key, port, l⟩), .p (.v (.string pt)), .agg (SE.cells ⟨k, t, n, a, b⟩)] (.tup [.agg [.p (.v (.string ⟨#[]⟩)), .p (.v (.int .i64 0)), .p (.v (.slice none 0 0))], .p (.v (.string ⟨#[]⟩)), .p (.v (.int .i64 13))]) [] := by
 have hC := zaO ⟨key, port, l⟩ ok
 rw [hc0] at hC
 have hS := zaK ⟨k, t, n, a, b⟩ sok
 rw [hs0] at hS
 have hK := za0 ⟨key, port, l⟩ ok
 have hA := zaD ⟨key, port, l⟩ ok t
 have hA2 := zaD ⟨key, port, l⟩ ok pt
 have hn := ok.len
 dsimp only at hn
 change Fn prog _ [.agg (cfC key port l.length (l.flatMap PE.pv))] _ _ at hC hK
 change Fn prog _ [.agg (cfC key port l.length (l.flatMap PE.pv)), _] (.p (.v (.int .i64 (peN t l : Nat)))) _ at hA
 change Fn prog _ [.agg (cfC key port l.length (l.flatMap PE.pv)), _] (.p (.v (.int .i64 (peN pt l : Nat)))) _ at hA2
 change Fn prog _ [.agg [.p (.v (.int .i64 k)), .p (.v (.string t)), .p (.v (.int .i64 n)), .p (.v (.int .u32 a)), .p (.v (.int .i64 b))]] _ _ at hS
 show Fn prog _ [.agg (cfC key port l.length (l.flatMap PE.pv)), _, .agg [.p (.v (.int .i64 k)), .p (.v (.string t)), .p (.v (.int .i64 n)), .p (.v (.int .u32 a)), .p (.v (.int .i64 b))]] _ _
 have hN := zdR (13)
 change Fn prog _ _ (.tup [.agg [.p (.v (.string ⟨#[]⟩)), .p (.v (.int .i64 0)), .p (.v (.slice none 0 0))], .p (.v (.string ⟨#[]⟩)), .p (.v (.int .i64 13))]) _ at hN
 have hU := peN_le pt l
 generalize peN pt l = U at *
 clear ok sok hc0 hs0
 generalize l.flatMap PE.pv = L at *
 generalize peN t l = T at *
 refine fnI fun w0 A => ?_
 refine G [16] ?_
 refine cK hC ?_
 refine G [5, 1, 7] ?_
 refine cK hS ?_
 refine G [5, 1, 6] ?_
 refine zaw (fun _ => 40) (hK) rfl rfl F26 rfl rfl (by first | rfl | simp [AV.okInL, AV.okIn, zaj]) rfl rfl rfl (by first | exact trivial | exact ⟨rfl, trivial⟩ | exact ⟨rfl, rfl, trivial⟩ | exact ⟨rfl, rfl, rfl, rfl, rfl, trivial⟩) rfl rfl rfl ?_
 refine G [3] ?_
 refine zaH (zaM (zak id [(1, .p (.v (.string pt))), (3, .ref 3 0), (5, .ref 5 0), (6, .ref 6 0), (9, .fn 23 []), (12, .ref 12 0)] [(3, .box 24 (cfC key port l.length L)), (5, .box 29 [.p (.v (.int .i64 k)), .p (.v (.string t)), .p (.v (.int .i64 n)), .p (.v (.int .u32 a)), .p (.v (.int .i64 b))]), (6, .box 24 [.p (.v (.string ⟨#[]⟩)), .p (.v (.int .i64 0)), .p (.v (.slice none 0 0))]), (12, .box 24 [.p (.v (.string key)), .p (.v (.int .i64 port)), .row 40]), (40, .row 60 5 l.length L)] (by repeat (first | exact trivial | refine ⟨⟨rfl, rfl⟩, ?_⟩)) (by repeat (first | exact trivial | refine ⟨⟨rfl, rfl⟩, ?_⟩)) rfl) ?_)
 refine G [5] ?_
 refine cV hA ?_
 refine G [7] ?_
 refine zac (zaG U22) rfl rfl ⟨rfl, trivial⟩ ?_
 refine zaa (zaN (c := decide (T < l.length)) (by first | (simp; done) | (simp; omega))) rfl rfl ?_
 refine G [11] ?_
 refine zaa (zaA (c := false) (by simp [h1])) rfl rfl ?_
 refine G [5] ?_
 refine zaa (zaA (c := false) (by simp [h2])) rfl rfl ?_
 refine G [5] ?_
 refine zaa (zaA (c := false) (by simp [h3])) rfl rfl ?_
 refine G [5] ?_
 refine zaa (zaA (c := false) (by simp [h4])) rfl rfl ?_
 refine G [8] ?_
 refine cV hA2 ?_
 refine G [2] ?_
 by_cases h0 : pt = ⟨#[]⟩
 ·refine G [4] ?_
  refine zaa (zah (c := true) (by simp [h0])) rfl rfl ?_
  refine mP rfl rfl ?_
  (first | refine mP rfl rfl ?_ | refine za1 rfl ?_)
  (first | refine fA zfV rfl rfl ?_ | refine za1 rfl ?_)
  (first | refine l1 U22 rfl rfl rfl ⟨rfl, trivial⟩ ?_ | refine za1 rfl ?_)
  (first | refine zac (zaG U22) rfl rfl ⟨rfl, trivial⟩ ?_ | refine za1 rfl ?_)
  refine za1 rfl ?_
  (first | refine zaa zf5 rfl rfl ?_ | refine zaa zf4 rfl rfl ?_)
  refine G [5] ?_
  refine cK hN ?_
  refine G [8, 9, 0] ?_
  exact yE
 ·have hJ : U = l.length := by
   have := h.resolve_left h0
   omega
  refine G [4] ?_
  refine zaa (zah (c := false) (by simp [h0])) rfl rfl ?_
  refine G [4] ?_
  refine zac (zaG U22) rfl rfl ⟨rfl, trivial⟩ ?_
  refine zaa (zaA (c := true) (by simp [hJ])) rfl rfl ?_
  refine G [6] ?_
  refine cK hN ?_
  refine G [8, 9, 0] ?_
  exact yE
set_option maxHeartbeats 8000000 in
theorem ref5_s (key : ByteArray) (port : Int) (l : List PE) (ok : CF.OK ⟨key, port, l⟩) (pt : ByteArray) (t : ByteArray) (n a b : Int) (sok : SE.OK ⟨5, t, n, a, b⟩) (hc0 : cfE ⟨key, port, l⟩ = 0) (hs0 : seE ⟨5, t, n, a, b⟩ = 0) (h0 : pt ≠ ⟨#[]⟩) (h : peN pt l < l.length) : Fn prog 8 [.agg (CF.cells ⟨key, port, l⟩), .p (.v (.string pt)), .agg (SE.cells ⟨5, t, n, a, b⟩)] (.tup [.agg [.p (.v (.string key)), .p (.v (.int .i64 port)), .row 0], .p (.v (.string ⟨#[]⟩)), .p (.v (.int .i64 0))]) [(0, .row 60 5 (l.length - 1) ((l.take (peN pt l) ++ l.drop (peN pt l + 1)).flatMap PE.pv))] := by
 have hC := zaO ⟨key, port, l⟩ ok
 rw [hc0] at hC
 have hS := zaK ⟨5, t, n, a, b⟩ sok
 rw [hs0] at hS
 have hK := za0 ⟨key, port, l⟩ ok
 have hA := zaD ⟨key, port, l⟩ ok t
 have hA2 := zaD ⟨key, port, l⟩ ok pt
 have hn := ok.len
 dsimp only at hn
 change Fn prog _ [.agg (cfC key port l.length (l.flatMap PE.pv))] _ _ at hC hK
 change Fn prog _ [.agg (cfC key port l.length (l.flatMap PE.pv)), _] (.p (.v (.int .i64 (peN t l : Nat)))) _ at hA
 change Fn prog _ [.agg (cfC key port l.length (l.flatMap PE.pv)), _] (.p (.v (.int .i64 (peN pt l : Nat)))) _ at hA2
 change Fn prog _ [.agg [.p (.v (.int .i64 5)), .p (.v (.string t)), .p (.v (.int .i64 n)), .p (.v (.int .u32 a)), .p (.v (.int .i64 b))]] _ _ at hS
 show Fn prog _ [.agg (cfC key port l.length (l.flatMap PE.pv)), _, .agg [.p (.v (.int .i64 5)), .p (.v (.string t)), .p (.v (.int .i64 n)), .p (.v (.int .u32 a)), .p (.v (.int .i64 b))]] _ _
 have hL0 : (l.flatMap PE.pv).length = l.length * 5 := zat (f := PE.pv) (k := 5) (fun _ => rfl) l
 have hap : (l.flatMap PE.pv).take (peN pt l * 5) ++ ((l.flatMap PE.pv).drop ((peN pt l + 1) * 5)).take ((l.length - (peN pt l + 1)) * 5) = (l.take (peN pt l) ++ l.drop (peN pt l + 1)).flatMap PE.pv := by
  have h1 : ((l.take (peN pt l)).flatMap PE.pv).length = peN pt l * 5 := by rw [zat (f := PE.pv) (k := 5) (fun _ => rfl), List.length_take, Nat.min_eq_left (by omega)]
  have h2 : ((l.take (peN pt l + 1)).flatMap PE.pv).length = (peN pt l + 1) * 5 := by rw [zat (f := PE.pv) (k := 5) (fun _ => rfl), List.length_take, Nat.min_eq_left (by omega)]
  have h3 : l.flatMap PE.pv = (l.take (peN pt l)).flatMap PE.pv ++ (l.drop (peN pt l)).flatMap PE.pv := by rw [← List.flatMap_append, List.take_append_drop]
  have h4 : l.flatMap PE.pv = (l.take (peN pt l + 1)).flatMap PE.pv ++ (l.drop (peN pt l + 1)).flatMap PE.pv := by rw [← List.flatMap_append, List.take_append_drop]
  have h5 : ((l.flatMap PE.pv).drop ((peN pt l + 1) * 5)).take ((l.length - (peN pt l + 1)) * 5) = (l.flatMap PE.pv).drop ((peN pt l + 1) * 5) := List.take_of_length_le (by rw [List.length_drop, hL0, ← Nat.sub_mul]; exact Nat.le_refl _)
  have h6 : (l.flatMap PE.pv).take (peN pt l * 5) = (l.take (peN pt l)).flatMap PE.pv := by rw [← h1, h3, List.take_left]
  have h7 : (l.flatMap PE.pv).drop ((peN pt l + 1) * 5) = (l.drop (peN pt l + 1)).flatMap PE.pv := by rw [← h2, h4, List.drop_left]
  rw [h5, h6, h7, List.flatMap_append]
 generalize (l.take (peN pt l) ++ l.drop (peN pt l + 1)).flatMap PE.pv = L2 at *
 generalize peN pt l = U at *
 clear ok sok hc0 hs0
 generalize l.flatMap PE.pv = L at *
 generalize peN t l = T at *
 refine fnI fun w0 A => ?_
 refine G [16] ?_
 refine cK hC ?_
 refine G [5, 1, 7] ?_
 refine cK hS ?_
 refine G [5, 1, 6] ?_
 refine zaw (fun _ => 40) (hK) rfl rfl F26 rfl rfl (by first | rfl | simp [AV.okInL, AV.okIn, zaj]) rfl rfl rfl (by first | exact trivial | exact ⟨rfl, trivial⟩ | exact ⟨rfl, rfl, trivial⟩ | exact ⟨rfl, rfl, rfl, rfl, rfl, trivial⟩) rfl rfl rfl ?_
 refine G [3] ?_
 refine zaH (zaM (zak id [(1, .p (.v (.string pt))), (3, .ref 3 0), (5, .ref 5 0), (6, .ref 6 0), (9, .fn 23 []), (12, .ref 12 0)] [(3, .box 24 (cfC key port l.length L)), (5, .box 29 [.p (.v (.int .i64 5)), .p (.v (.string t)), .p (.v (.int .i64 n)), .p (.v (.int .u32 a)), .p (.v (.int .i64 b))]), (6, .box 24 [.p (.v (.string ⟨#[]⟩)), .p (.v (.int .i64 0)), .p (.v (.slice none 0 0))]), (12, .box 24 [.p (.v (.string key)), .p (.v (.int .i64 port)), .row 40]), (40, .row 60 5 l.length L)] (by repeat (first | exact trivial | refine ⟨⟨rfl, rfl⟩, ?_⟩)) (by repeat (first | exact trivial | refine ⟨⟨rfl, rfl⟩, ?_⟩)) rfl) ?_)
 refine G [5] ?_
 refine cV hA ?_
 refine G [7] ?_
 refine zac (zaG U22) rfl rfl ⟨rfl, trivial⟩ ?_
 refine zaa (zaN (c := decide (T < l.length)) (by first | (simp; done) | (simp; omega))) rfl rfl ?_
 refine G [38] ?_
 refine cV hA2 ?_
 refine G [6] ?_
 refine zaa (zah (c := false) (by simp [h0])) rfl rfl ?_
 refine G [4] ?_
 refine zac (zaG U22) rfl rfl ⟨rfl, trivial⟩ ?_
 refine zaa (zaA (c := false) (by simp; omega)) rfl rfl ?_
 refine G [13] ?_
 (first | refine zaa zbp rfl rfl ?_ | refine zaa zaY rfl rfl ?_)
 refine G [5] ?_
 refine zac (zbX 134 U22 sz60) rfl rfl ⟨rfl, trivial⟩ ?_
 refine G [3] ?_
 refine zac (zcE (L := none) (H := (some (_, _))) U22 sz60 rfl ⟨by omega, rfl⟩ (by omega) (by omega) (show Int.toNat (U : Int) - 0 = U by omega) rfl) rfl rfl ⟨rfl, trivial⟩ ?_
 refine zac (zaF 139 U22 eo60 (zeC (by omega) rfl) (by simp only [maxLen]; omega) (by omega) (show 0 + U = U by omega) (show [] ++ (L.drop (0 * 5)).take (U * 5) = L.take (U * 5) by simp)) rfl rfl ⟨rfl, rfl, rfl, trivial⟩ ?_
 refine G [3] ?_
 refine zaa (zas (show IntKind.i64.wrap ((U : Int) + 1) = ((U + 1 : Nat) : Int) by rw [IntWalk.i64_in _ (by omega)]; omega)) rfl rfl ?_
 refine zac (zcE (L := (some (_, _))) (H := none) U22 sz60 ⟨by omega, rfl⟩ rfl (by omega) (by omega) (show l.length - Int.toNat ((U + 1 : Nat) : Int) = l.length - (U + 1) by omega) (show Int.toNat ((U + 1 : Nat) : Int) * 5 = (U + 1) * 5 by rw [Int.toNat_natCast])) rfl rfl ⟨rfl, trivial⟩ ?_
 refine zac (zaF 145 U22 eo60 (zeC (by omega) rfl) (by simp only [maxLen]; omega) (by omega) (show U + (l.length - (U + 1)) = l.length - 1 by omega) hap) rfl rfl ⟨rfl, rfl, rfl, trivial⟩ ?_
 refine fA zfV rfl rfl ?_
 refine zac (za9 (Y := .row _) sz22 rfl (by first | exact Nat.eq_of_beq_eq_true rfl | (simp only [AV.cells, List.length_map]; first | assumption | omega)) (by first | exact Nat.le_of_ble_eq_true rfl | omega | (simp only [AV.cells, List.length_map]; omega)) (by first | (simp only [setR, AV.cells, List.take_succ_cons, List.take_zero, List.drop_succ_cons, List.drop_zero, List.drop_nil, List.take_nil, List.nil_append, List.cons_append, List.append_nil, List.length_cons, List.length_nil, Nat.reduceAdd, Nat.zero_add, Nat.add_zero]; rfl) | rfl)) rfl rfl ⟨rfl, trivial⟩ ?_
 refine G [9, 9, 0] ?_
 refine yT (fun _ => 145) ?_ ?_
 ·exact rfl
 ·exact ⟨⟨rfl, rfl⟩, trivial⟩
set_option maxHeartbeats 8000000 in
theorem ref6_s (key : ByteArray) (port : Int) (l : List PE) (ok : CF.OK ⟨key, port, l⟩) (pt : ByteArray) (t : ByteArray) (n a b : Int) (sok : SE.OK ⟨6, t, n, a, b⟩) (hc0 : cfE ⟨key, port, l⟩ = 0) (hs0 : seE ⟨6, t, n, a, b⟩ = 0) (h0 : pt ≠ ⟨#[]⟩) (h : peN pt l < l.length) : Fn prog 8 [.agg (CF.cells ⟨key, port, l⟩), .p (.v (.string pt)), .agg (SE.cells ⟨6, t, n, a, b⟩)] (.tup [.agg [.p (.v (.string key)), .p (.v (.int .i64 port)), .row 0], .p (.v (.string pt)), .p (.v (.int .i64 0))]) [(0, .row 60 5 l.length ((l.set (peN pt l) { l[peN pt l] with sh := t }).flatMap PE.pv))] := by
 have hC := zaO ⟨key, port, l⟩ ok
 rw [hc0] at hC
 have hS := zaK ⟨6, t, n, a, b⟩ sok
 rw [hs0] at hS
 have hK := za0 ⟨key, port, l⟩ ok
 have hA := zaD ⟨key, port, l⟩ ok t
 have hA2 := zaD ⟨key, port, l⟩ ok pt
 have hn := ok.len
 dsimp only at hn
 change Fn prog _ [.agg (cfC key port l.length (l.flatMap PE.pv))] _ _ at hC hK
 change Fn prog _ [.agg (cfC key port l.length (l.flatMap PE.pv)), _] (.p (.v (.int .i64 (peN t l : Nat)))) _ at hA
 change Fn prog _ [.agg (cfC key port l.length (l.flatMap PE.pv)), _] (.p (.v (.int .i64 (peN pt l : Nat)))) _ at hA2
 change Fn prog _ [.agg [.p (.v (.int .i64 6)), .p (.v (.string t)), .p (.v (.int .i64 n)), .p (.v (.int .u32 a)), .p (.v (.int .i64 b))]] _ _ at hS
 show Fn prog _ [.agg (cfC key port l.length (l.flatMap PE.pv)), _, .agg [.p (.v (.int .i64 6)), .p (.v (.string t)), .p (.v (.int .i64 n)), .p (.v (.int .u32 a)), .p (.v (.int .i64 b))]] _ _
 have hL0 : (l.flatMap PE.pv).length = l.length * 5 := zat (f := PE.pv) (k := 5) (fun _ => rfl) l
 have hset := ze0 h 1 (.v (.string t)) { l[peN pt l] with sh := t } rfl (by omega)
 generalize (l.set (peN pt l) { l[peN pt l] with sh := t }).flatMap PE.pv = L2 at *
 generalize peN pt l = U at *
 clear ok sok hc0 hs0
 generalize l.flatMap PE.pv = L at *
 generalize peN t l = T at *
 refine fnI fun w0 A => ?_
 refine G [16] ?_
 refine cK hC ?_
 refine G [5, 1, 7] ?_
 refine cK hS ?_
 refine G [5, 1, 6] ?_
 refine zaw (fun _ => 40) (hK) rfl rfl F26 rfl rfl (by first | rfl | simp [AV.okInL, AV.okIn, zaj]) rfl rfl rfl (by first | exact trivial | exact ⟨rfl, trivial⟩ | exact ⟨rfl, rfl, trivial⟩ | exact ⟨rfl, rfl, rfl, rfl, rfl, trivial⟩) rfl rfl rfl ?_
 refine G [3] ?_
 refine zaH (zaM (zak id [(1, .p (.v (.string pt))), (3, .ref 3 0), (5, .ref 5 0), (6, .ref 6 0), (9, .fn 23 []), (12, .ref 12 0)] [(3, .box 24 (cfC key port l.length L)), (5, .box 29 [.p (.v (.int .i64 6)), .p (.v (.string t)), .p (.v (.int .i64 n)), .p (.v (.int .u32 a)), .p (.v (.int .i64 b))]), (6, .box 24 [.p (.v (.string ⟨#[]⟩)), .p (.v (.int .i64 0)), .p (.v (.slice none 0 0))]), (12, .box 24 [.p (.v (.string key)), .p (.v (.int .i64 port)), .row 40]), (40, .row 60 5 l.length L)] (by repeat (first | exact trivial | refine ⟨⟨rfl, rfl⟩, ?_⟩)) (by repeat (first | exact trivial | refine ⟨⟨rfl, rfl⟩, ?_⟩)) rfl) ?_)
 refine G [5] ?_
 refine cV hA ?_
 refine G [7] ?_
 refine zac (zaG U22) rfl rfl ⟨rfl, trivial⟩ ?_
 refine zaa (zaN (c := decide (T < l.length)) (by first | (simp; done) | (simp; omega))) rfl rfl ?_
 refine G [38] ?_
 refine cV hA2 ?_
 refine G [6] ?_
 refine zaa (zah (c := false) (by simp [h0])) rfl rfl ?_
 refine G [4] ?_
 refine zac (zaG U22) rfl rfl ⟨rfl, trivial⟩ ?_
 refine zaa (zaA (c := false) (by simp; omega)) rfl rfl ?_
 refine G [19] ?_
 (first | refine zaa zbp rfl rfl ?_ | refine zaa zaY rfl rfl ?_)
 refine G [3] ?_
 skip
 refine G [6] ?_
 refine zac (zai U22 sz60 (by omega) (by omega) (by first | (simp only [Int.toNat_natCast, Nat.mul_one, Nat.zero_add]; rfl) | rfl)) rfl rfl ⟨rfl, trivial⟩ ?_
 refine fA fi60_1 rfl rfl ?_
 refine zac (zbG (Y := .p (.v (.string t))) (ys := [.v (.string t)]) sz9 rfl rfl rfl (by omega) hset) rfl rfl ⟨rfl, trivial⟩ ?_
 refine G [10, 9, 0] ?_
 refine yT (fun _ => 40) ?_ ?_
 ·exact rfl
 ·exact ⟨⟨rfl, rfl⟩, trivial⟩
set_option maxHeartbeats 8000000 in
theorem ref7_s (key : ByteArray) (port : Int) (l : List PE) (ok : CF.OK ⟨key, port, l⟩) (pt : ByteArray) (t : ByteArray) (n a b : Int) (sok : SE.OK ⟨7, t, n, a, b⟩) (hc0 : cfE ⟨key, port, l⟩ = 0) (hs0 : seE ⟨7, t, n, a, b⟩ = 0) (h0 : pt ≠ ⟨#[]⟩) (h : peN pt l < l.length) : Fn prog 8 [.agg (CF.cells ⟨key, port, l⟩), .p (.v (.string pt)), .agg (SE.cells ⟨7, t, n, a, b⟩)] (.tup [.agg [.p (.v (.string key)), .p (.v (.int .i64 port)), .row 0], .p (.v (.string pt)), .p (.v (.int .i64 0))]) [(0, .row 60 5 l.length ((l.set (peN pt l) { l[peN pt l] with ep := t }).flatMap PE.pv))] := by
 have hC := zaO ⟨key, port, l⟩ ok
 rw [hc0] at hC
 have hS := zaK ⟨7, t, n, a, b⟩ sok
 rw [hs0] at hS
 have hK := za0 ⟨key, port, l⟩ ok
 have hA := zaD ⟨key, port, l⟩ ok t
 have hA2 := zaD ⟨key, port, l⟩ ok pt
 have hn := ok.len
 dsimp only at hn
 change Fn prog _ [.agg (cfC key port l.length (l.flatMap PE.pv))] _ _ at hC hK
 change Fn prog _ [.agg (cfC key port l.length (l.flatMap PE.pv)), _] (.p (.v (.int .i64 (peN t l : Nat)))) _ at hA
 change Fn prog _ [.agg (cfC key port l.length (l.flatMap PE.pv)), _] (.p (.v (.int .i64 (peN pt l : Nat)))) _ at hA2
 change Fn prog _ [.agg [.p (.v (.int .i64 7)), .p (.v (.string t)), .p (.v (.int .i64 n)), .p (.v (.int .u32 a)), .p (.v (.int .i64 b))]] _ _ at hS
 show Fn prog _ [.agg (cfC key port l.length (l.flatMap PE.pv)), _, .agg [.p (.v (.int .i64 7)), .p (.v (.string t)), .p (.v (.int .i64 n)), .p (.v (.int .u32 a)), .p (.v (.int .i64 b))]] _ _
 have hL0 : (l.flatMap PE.pv).length = l.length * 5 := zat (f := PE.pv) (k := 5) (fun _ => rfl) l
 have hset := ze0 h 2 (.v (.string t)) { l[peN pt l] with ep := t } rfl (by omega)
 generalize (l.set (peN pt l) { l[peN pt l] with ep := t }).flatMap PE.pv = L2 at *
 generalize peN pt l = U at *
 clear ok sok hc0 hs0
 generalize l.flatMap PE.pv = L at *
 generalize peN t l = T at *
 refine fnI fun w0 A => ?_
 refine G [16] ?_
 refine cK hC ?_
 refine G [5, 1, 7] ?_
 refine cK hS ?_
 refine G [5, 1, 6] ?_
 refine zaw (fun _ => 40) (hK) rfl rfl F26 rfl rfl (by first | rfl | simp [AV.okInL, AV.okIn, zaj]) rfl rfl rfl (by first | exact trivial | exact ⟨rfl, trivial⟩ | exact ⟨rfl, rfl, trivial⟩ | exact ⟨rfl, rfl, rfl, rfl, rfl, trivial⟩) rfl rfl rfl ?_
 refine G [3] ?_
 refine zaH (zaM (zak id [(1, .p (.v (.string pt))), (3, .ref 3 0), (5, .ref 5 0), (6, .ref 6 0), (9, .fn 23 []), (12, .ref 12 0)] [(3, .box 24 (cfC key port l.length L)), (5, .box 29 [.p (.v (.int .i64 7)), .p (.v (.string t)), .p (.v (.int .i64 n)), .p (.v (.int .u32 a)), .p (.v (.int .i64 b))]), (6, .box 24 [.p (.v (.string ⟨#[]⟩)), .p (.v (.int .i64 0)), .p (.v (.slice none 0 0))]), (12, .box 24 [.p (.v (.string key)), .p (.v (.int .i64 port)), .row 40]), (40, .row 60 5 l.length L)] (by repeat (first | exact trivial | refine ⟨⟨rfl, rfl⟩, ?_⟩)) (by repeat (first | exact trivial | refine ⟨⟨rfl, rfl⟩, ?_⟩)) rfl) ?_)
 refine G [5] ?_
 refine cV hA ?_
 refine G [7] ?_
 refine zac (zaG U22) rfl rfl ⟨rfl, trivial⟩ ?_
 refine zaa (zaN (c := decide (T < l.length)) (by first | (simp; done) | (simp; omega))) rfl rfl ?_
 refine G [38] ?_
 refine cV hA2 ?_
 refine G [6] ?_
 refine zaa (zah (c := false) (by simp [h0])) rfl rfl ?_
 refine G [4] ?_
 refine zac (zaG U22) rfl rfl ⟨rfl, trivial⟩ ?_
 refine zaa (zaA (c := false) (by simp; omega)) rfl rfl ?_
 refine G [25] ?_
 (first | refine zaa zbp rfl rfl ?_ | refine zaa zaY rfl rfl ?_)
 refine G [3] ?_
 skip
 refine G [6] ?_
 refine zac (zai U22 sz60 (by omega) (by omega) (by first | (simp only [Int.toNat_natCast, Nat.mul_one, Nat.zero_add]; rfl) | rfl)) rfl rfl ⟨rfl, trivial⟩ ?_
 refine fA fi60_2 rfl rfl ?_
 refine zac (zbG (Y := .p (.v (.string t))) (ys := [.v (.string t)]) sz9 rfl rfl rfl (by omega) hset) rfl rfl ⟨rfl, trivial⟩ ?_
 refine G [10, 9, 0] ?_
 refine yT (fun _ => 40) ?_ ?_
 ·exact rfl
 ·exact ⟨⟨rfl, rfl⟩, trivial⟩
set_option maxHeartbeats 8000000 in
theorem ref8_s (key : ByteArray) (port : Int) (l : List PE) (ok : CF.OK ⟨key, port, l⟩) (pt : ByteArray) (t : ByteArray) (n a b : Int) (sok : SE.OK ⟨8, t, n, a, b⟩) (hc0 : cfE ⟨key, port, l⟩ = 0) (hs0 : seE ⟨8, t, n, a, b⟩ = 0) (h0 : pt ≠ ⟨#[]⟩) (h : peN pt l < l.length) : Fn prog 8 [.agg (CF.cells ⟨key, port, l⟩), .p (.v (.string pt)), .agg (SE.cells ⟨8, t, n, a, b⟩)] (.tup [.agg [.p (.v (.string key)), .p (.v (.int .i64 port)), .row 0], .p (.v (.string pt)), .p (.v (.int .i64 0))]) [(0, .row 60 5 l.length ((l.set (peN pt l) { l[peN pt l] with al := n }).flatMap PE.pv))] := by
 have hC := zaO ⟨key, port, l⟩ ok
 rw [hc0] at hC
 have hS := zaK ⟨8, t, n, a, b⟩ sok
 rw [hs0] at hS
 have hK := za0 ⟨key, port, l⟩ ok
 have hA := zaD ⟨key, port, l⟩ ok t
 have hA2 := zaD ⟨key, port, l⟩ ok pt
 have hn := ok.len
 dsimp only at hn
 change Fn prog _ [.agg (cfC key port l.length (l.flatMap PE.pv))] _ _ at hC hK
 change Fn prog _ [.agg (cfC key port l.length (l.flatMap PE.pv)), _] (.p (.v (.int .i64 (peN t l : Nat)))) _ at hA
 change Fn prog _ [.agg (cfC key port l.length (l.flatMap PE.pv)), _] (.p (.v (.int .i64 (peN pt l : Nat)))) _ at hA2
 change Fn prog _ [.agg [.p (.v (.int .i64 8)), .p (.v (.string t)), .p (.v (.int .i64 n)), .p (.v (.int .u32 a)), .p (.v (.int .i64 b))]] _ _ at hS
 show Fn prog _ [.agg (cfC key port l.length (l.flatMap PE.pv)), _, .agg [.p (.v (.int .i64 8)), .p (.v (.string t)), .p (.v (.int .i64 n)), .p (.v (.int .u32 a)), .p (.v (.int .i64 b))]] _ _
 have hL0 : (l.flatMap PE.pv).length = l.length * 5 := zat (f := PE.pv) (k := 5) (fun _ => rfl) l
 have hset := ze0 h 3 (.v (.int .i64 n)) { l[peN pt l] with al := n } rfl (by omega)
 generalize (l.set (peN pt l) { l[peN pt l] with al := n }).flatMap PE.pv = L2 at *
 generalize peN pt l = U at *
 clear ok sok hc0 hs0
 generalize l.flatMap PE.pv = L at *
 generalize peN t l = T at *
 refine fnI fun w0 A => ?_
 refine G [16] ?_
 refine cK hC ?_
 refine G [5, 1, 7] ?_
 refine cK hS ?_
 refine G [5, 1, 6] ?_
 refine zaw (fun _ => 40) (hK) rfl rfl F26 rfl rfl (by first | rfl | simp [AV.okInL, AV.okIn, zaj]) rfl rfl rfl (by first | exact trivial | exact ⟨rfl, trivial⟩ | exact ⟨rfl, rfl, trivial⟩ | exact ⟨rfl, rfl, rfl, rfl, rfl, trivial⟩) rfl rfl rfl ?_
 refine G [3] ?_
 refine zaH (zaM (zak id [(1, .p (.v (.string pt))), (3, .ref 3 0), (5, .ref 5 0), (6, .ref 6 0), (9, .fn 23 []), (12, .ref 12 0)] [(3, .box 24 (cfC key port l.length L)), (5, .box 29 [.p (.v (.int .i64 8)), .p (.v (.string t)), .p (.v (.int .i64 n)), .p (.v (.int .u32 a)), .p (.v (.int .i64 b))]), (6, .box 24 [.p (.v (.string ⟨#[]⟩)), .p (.v (.int .i64 0)), .p (.v (.slice none 0 0))]), (12, .box 24 [.p (.v (.string key)), .p (.v (.int .i64 port)), .row 40]), (40, .row 60 5 l.length L)] (by repeat (first | exact trivial | refine ⟨⟨rfl, rfl⟩, ?_⟩)) (by repeat (first | exact trivial | refine ⟨⟨rfl, rfl⟩, ?_⟩)) rfl) ?_)
 refine G [5] ?_
 refine cV hA ?_
 refine G [7] ?_
 refine zac (zaG U22) rfl rfl ⟨rfl, trivial⟩ ?_
 refine zaa (zaN (c := decide (T < l.length)) (by first | (simp; done) | (simp; omega))) rfl rfl ?_
 refine G [38] ?_
 refine cV hA2 ?_
 refine G [6] ?_
 refine zaa (zah (c := false) (by simp [h0])) rfl rfl ?_
 refine G [4] ?_
 refine zac (zaG U22) rfl rfl ⟨rfl, trivial⟩ ?_
 refine zaa (zaA (c := false) (by simp; omega)) rfl rfl ?_
 refine G [31] ?_
 (first | refine zaa zbp rfl rfl ?_ | refine zaa zaY rfl rfl ?_)
 refine G [3] ?_
 skip
 refine G [6] ?_
 refine zac (zai U22 sz60 (by omega) (by omega) (by first | (simp only [Int.toNat_natCast, Nat.mul_one, Nat.zero_add]; rfl) | rfl)) rfl rfl ⟨rfl, trivial⟩ ?_
 refine fA fi60_3 rfl rfl ?_
 refine zac (zbG (Y := .p (.v (.int .i64 n))) (ys := [.v (.int .i64 n)]) sz3 rfl rfl rfl (by omega) hset) rfl rfl ⟨rfl, trivial⟩ ?_
 refine G [10, 9, 0] ?_
 refine yT (fun _ => 40) ?_ ?_
 ·exact rfl
 ·exact ⟨⟨rfl, rfl⟩, trivial⟩
set_option maxHeartbeats 8000000 in
theorem ref9_s (key : ByteArray) (port : Int) (l : List PE) (ok : CF.OK ⟨key, port, l⟩) (pt : ByteArray) (t : ByteArray) (n a b : Int) (sok : SE.OK ⟨9, t, n, a, b⟩) (hc0 : cfE ⟨key, port, l⟩ = 0) (hs0 : seE ⟨9, t, n, a, b⟩ = 0) (h0 : pt ≠ ⟨#[]⟩) (h : peN pt l < l.length) : Fn prog 8 [.agg (CF.cells ⟨key, port, l⟩), .p (.v (.string pt)), .agg (SE.cells ⟨9, t, n, a, b⟩)] (.tup [.agg [.p (.v (.string key)), .p (.v (.int .i64 port)), .row 0], .p (.v (.string pt)), .p (.v (.int .i64 0))]) [(0, .row 60 5 l.length ((l.set (peN pt l) { l[peN pt l] with nets := [] }).flatMap PE.pv))] := by
 have hC := zaO ⟨key, port, l⟩ ok
 rw [hc0] at hC
 have hS := zaK ⟨9, t, n, a, b⟩ sok
 rw [hs0] at hS
 have hK := za0 ⟨key, port, l⟩ ok
 have hA := zaD ⟨key, port, l⟩ ok t
 have hA2 := zaD ⟨key, port, l⟩ ok pt
 have hn := ok.len
 dsimp only at hn
 change Fn prog _ [.agg (cfC key port l.length (l.flatMap PE.pv))] _ _ at hC hK
 change Fn prog _ [.agg (cfC key port l.length (l.flatMap PE.pv)), _] (.p (.v (.int .i64 (peN t l : Nat)))) _ at hA
 change Fn prog _ [.agg (cfC key port l.length (l.flatMap PE.pv)), _] (.p (.v (.int .i64 (peN pt l : Nat)))) _ at hA2
 change Fn prog _ [.agg [.p (.v (.int .i64 9)), .p (.v (.string t)), .p (.v (.int .i64 n)), .p (.v (.int .u32 a)), .p (.v (.int .i64 b))]] _ _ at hS
 show Fn prog _ [.agg (cfC key port l.length (l.flatMap PE.pv)), _, .agg [.p (.v (.int .i64 9)), .p (.v (.string t)), .p (.v (.int .i64 n)), .p (.v (.int .u32 a)), .p (.v (.int .i64 b))]] _ _
 have hL0 : (l.flatMap PE.pv).length = l.length * 5 := zat (f := PE.pv) (k := 5) (fun _ => rfl) l
 have hset := ze0 h 4 (.sl 0 2 []) { l[peN pt l] with nets := [] } rfl (by omega)
 generalize (l.set (peN pt l) { l[peN pt l] with nets := [] }).flatMap PE.pv = L2 at *
 generalize peN pt l = U at *
 clear ok sok hc0 hs0
 generalize l.flatMap PE.pv = L at *
 generalize peN t l = T at *
 refine fnI fun w0 A => ?_
 refine G [16] ?_
 refine cK hC ?_
 refine G [5, 1, 7] ?_
 refine cK hS ?_
 refine G [5, 1, 6] ?_
 refine zaw (fun _ => 40) (hK) rfl rfl F26 rfl rfl (by first | rfl | simp [AV.okInL, AV.okIn, zaj]) rfl rfl rfl (by first | exact trivial | exact ⟨rfl, trivial⟩ | exact ⟨rfl, rfl, trivial⟩ | exact ⟨rfl, rfl, rfl, rfl, rfl, trivial⟩) rfl rfl rfl ?_
 refine G [3] ?_
 refine zaH (zaM (zak id [(1, .p (.v (.string pt))), (3, .ref 3 0), (5, .ref 5 0), (6, .ref 6 0), (9, .fn 23 []), (12, .ref 12 0)] [(3, .box 24 (cfC key port l.length L)), (5, .box 29 [.p (.v (.int .i64 9)), .p (.v (.string t)), .p (.v (.int .i64 n)), .p (.v (.int .u32 a)), .p (.v (.int .i64 b))]), (6, .box 24 [.p (.v (.string ⟨#[]⟩)), .p (.v (.int .i64 0)), .p (.v (.slice none 0 0))]), (12, .box 24 [.p (.v (.string key)), .p (.v (.int .i64 port)), .row 40]), (40, .row 60 5 l.length L)] (by repeat (first | exact trivial | refine ⟨⟨rfl, rfl⟩, ?_⟩)) (by repeat (first | exact trivial | refine ⟨⟨rfl, rfl⟩, ?_⟩)) rfl) ?_)
 refine G [5] ?_
 refine cV hA ?_
 refine G [7] ?_
 refine zac (zaG U22) rfl rfl ⟨rfl, trivial⟩ ?_
 refine zaa (zaN (c := decide (T < l.length)) (by first | (simp; done) | (simp; omega))) rfl rfl ?_
 refine G [38] ?_
 refine cV hA2 ?_
 refine G [6] ?_
 refine zaa (zah (c := false) (by simp [h0])) rfl rfl ?_
 refine G [4] ?_
 refine zac (zaG U22) rfl rfl ⟨rfl, trivial⟩ ?_
 refine zaa (zaA (c := false) (by simp; omega)) rfl rfl ?_
 refine G [37] ?_
 (first | refine zaa zbp rfl rfl ?_ | refine zaa zaY rfl rfl ?_)
 refine G [3] ?_
 skip
 refine G [4] ?_
 refine zac (zai U22 sz60 (by omega) (by omega) (by first | (simp only [Int.toNat_natCast, Nat.mul_one, Nat.zero_add]; rfl) | rfl)) rfl rfl ⟨rfl, trivial⟩ ?_
 refine fA zbo rfl rfl ?_
 refine zac (zf3 (nil_sl (.ref 40 (U * 5 + 4)) 2) (zbG (Y := .p (.sl 0 2 [])) (ys := [.sl 0 2 []]) sz58 rfl rfl rfl (by omega) hset)) rfl rfl ⟨rfl, trivial⟩ ?_
 refine G [10, 9, 0] ?_
 refine yT (fun _ => 40) ?_ ?_
 ·exact rfl
 ·exact ⟨⟨rfl, rfl⟩, trivial⟩
end Go.Proofs.YtkdfdcodkeclmaaGreatDoor
