/- The reference's ConfCopy and ApplyOne, over data. -/
import Derived.Test.YtkdfdcodkeclmaaGreatDoorSAp2
import Derived.Test.YtkdfdcodkeclmaaGreatDoorSAo1
import Derived.Test.YtkdfdcodkeclmaaGreatDoorSSo1
import Derived.Test.YtkdfdcodkeclmaaGreatDoorSFw
import Derived.Test.YtkdfdcodkeclmaaGreatDoorSBt2
namespace Go.Proofs.YtkdfdcodkeclmaaGreatDoor
open Tryz
open Go.RowKit Go.Sort
set_option linter.unusedVariables false
set_option linter.unusedSimpArgs false
set_option maxRecDepth 100000
/-- a new peer, its nets as a slice of none -/
theorem newP_view (t : ByteArray) (S : Nat → Prop) (m : Nat → Option Value) (w : World) (us : List Value) (h : RepL S m w [.agg [.p (.v (.string t)), .p (.v (.string ⟨#[]⟩)), .p (.v (.string ⟨#[]⟩)), .p (.v (.int .i64 0)), .p (.v (.slice none 0 0))]] us) : RepL S m w [.agg (newP t).cells] us := by
 simp only [newP, PE.cells, RepL, Rep, PRep, PRepL, List.length_nil, List.flatMap_nil] at h ⊢
 obtain ⟨u, _, rfl, ⟨ua, rfl, ⟨u0, _, rfl, h0, u1, _, rfl, h1, u2, _, rfl, h2, u3, _, rfl, h3, u4, _, rfl, ⟨rfl, _⟩, rfl⟩, h5⟩, rfl⟩ := h
 exact ⟨_, _, rfl, ⟨_, rfl, ⟨u0, _, rfl, h0, u1, _, rfl, h1, u2, _, rfl, h2, u3, _, rfl, h3, _, _, rfl, ⟨none, 0, [], rfl, Nat.le_refl _, qS, rfl, qS⟩, rfl⟩, h5⟩, rfl⟩
set_option maxHeartbeats 4000000 in
theorem zbp (c : CF) (ok : c.OK) : Fn prog 26 [.agg c.cells] (.agg [.p (.v (.string c.key)), .p (.v (.int .i64 c.port)), .row 0]) [(0, .row 60 5 c.ps.length (c.ps.flatMap PE.pv))] := by
 obtain ⟨key, port, l⟩ := c
 obtain ⟨hn, ok⟩ := ok
 dsimp only at hn ok
 show Fn prog _ [.agg (cfC key port l.length (l.flatMap PE.pv))] (.agg [.p (.v (.string key)), .p (.v (.int .i64 port)), .row 0]) [(0, .row 60 5 l.length (l.flatMap PE.pv))]
 refine zaw F26 rfl (qE rfl) fun w0 A => zaa<| tx<| wG (zaK (X := .agg _) 1 rfl) rfl<| wG (zaF 2 zr24 rfl) rfl<| zab<| zaa<| tx<| wF zbD rfl<| wL U9 rfl<| wF zew rfl<| wL U3 rfl<| wP (zaQ pl24 zr24 rfl rfl) rfl<| wG (zaF 3 zr24 rfl) rfl<| wG (zar (Y := .agg _) sz24 rfl (by first | exact Nat.eq_of_beq_eq_true rfl | (simp only [AV.cells, List.length_map]; first | assumption | omega)) (Nat.eq_of_beq_eq_true rfl)) rfl ?_
 refine zab<| zaa<| zaa<| tx<| wF zaH rfl<| wL U22 rfl<| wP (zbf U22) rfl<| wM rfl<| zab<| zak<| zbl (re_nilB 3 2 100 60 5 rfl rfl rfl)<| zaN (fun m st => ∃ i : Nat, m + i = l.length ∧ st = St.of [(2, .ref 2 0), (3, .ref 3 0), (12, .p (.sl l.length 5 (l.flatMap PE.pv))), (13, .p (.v (.int .i64 l.length))), (14, .p (.v (.int .i64 i)))] [(2, .box 24 [.p (.v (.string ⟨#[]⟩)), .p (.v (.int .i64 0)), .p (.v (.slice none 0 0))]), (3, .box 24 [.p (.v (.string key)), .p (.v (.int .i64 port)), .row 100]), (100, .row 60 5 i ((l.take i).flatMap PE.pv))]) l.length ?_ ?_
 ·refine ⟨_, zaJ id _ _ ?_ ?_ rfl, 0, qO, rfl⟩
  ·(repeat (first | exact trivial | (refine ⟨⟨(by first | rfl | (simp; done) | (simp; omega)), rfl⟩, ?_⟩)))
  ·exact ⟨⟨rfl, rfl⟩, ⟨rfl, rfl⟩, ⟨rfl, rfl⟩, trivial⟩
 rintro m st ⟨i, hi, rfl⟩
 refine zaa<| tx<| wP za8 rfl<| zab<| zaa<| zaq _ rfl (fun h => ?_) (fun h => ?_)
 ·have hlt : i < l.length := by simp at h; omega
  clear h
  obtain ⟨p, hp⟩ : ∃ p, l[i]? = some p := ⟨l[i], List.getElem?_eq_getElem hlt⟩
  have hch := zaX (f := PE.pv) (k := 5) (fun _ => rfl) hp
  have hle := zaV (f := PE.pv) (k := 5) (fun _ => rfl) hlt
  have hpl := (ok p (List.mem_of_getElem? hp)).2
  have hpush := pe_push l i p hp
  have hil : ((l.take i).flatMap PE.pv).length = i * 5 := by rw [zaW (f := PE.pv) (k := 5) (fun _ => rfl), List.length_take, Nat.min_eq_left (by omega)]
  generalize hL : l.flatMap PE.pv = L at *
  generalize (l.take i).flatMap PE.pv = T at *
  obtain ⟨pk, sh, ep, al, nn⟩ := p
  dsimp only at hpl
  refine zae<| zaa<| zak<| zaa<| tx<| wP (zaA U22 sz60 qO qO rfl) rfl<| wP (zaS U60 rfl sz60 (by first | omega | (simp; done) | (simp; omega)) (hch)) rfl ?_
  refine wG (zaF 5 zr60 rfl) rfl<| wG (zar (Y := .agg [.p (.v (.string pk)), .p (.v (.string sh)), .p (.v (.string ep)), .p (.v (.int .i64 al)), .p (.sl nn.length 2 (nn.flatMap ntC))]) sz60 rfl rfl (Nat.eq_of_beq_eq_true rfl)) rfl<| zab<| zaa<| tx<| wF zbh rfl<| wL U58 rfl<| wG (a_appendNil 20 U58 eo27 (src_sl) (by simp only [maxLen]; omega) (by omega)) rfl ?_
  refine wF zbh rfl<| wG (zbX (Y := .row _) sz58 rfl (by first | exact Nat.eq_of_beq_eq_true rfl | (simp only [AV.cells, List.length_map]; first | assumption | omega)) (by first | exact Nat.le_of_ble_eq_true rfl | omega | (simp only [AV.cells, List.length_map]; omega)) (by first | (simp only [setR, AV.cells, List.take_succ_cons, List.take_zero, List.drop_succ_cons, List.drop_zero, List.drop_nil, List.take_nil, List.nil_append, List.cons_append, List.append_nil, List.length_cons, List.length_nil, Nat.reduceAdd, Nat.zero_add, Nat.add_zero]; rfl) | rfl)) rfl ?_
  refine zab<| zbI (reo_fzR (cs := nn.flatMap ntC) 20 rfl) ?_
  skip
  refine tx<| wF zaH rfl<| wL U22 rfl<| wN U60 sz60 rfl ?_
  refine wG (zaO 25 U22 sz60 zc60 (qE rfl) (qE rfl) rfl rfl rfl rfl (qE rfl)) rfl<| zah (zbe 26 U22 eo60 (zb5) (by simp only [maxLen]; omega) (by omega) rfl rfl) rfl rfl ⟨rfl, rfl, rfl, trivial⟩ ?_
  refine wF zaH rfl<| wG (zbX (Y := .row _) sz22 rfl (by first | exact Nat.eq_of_beq_eq_true rfl | (simp only [AV.cells, List.length_map]; first | assumption | omega)) (by first | exact Nat.le_of_ble_eq_true rfl | omega | (simp only [AV.cells, List.length_map]; omega)) (by first | (simp only [setR, AV.cells, List.take_succ_cons, List.take_zero, List.drop_succ_cons, List.drop_zero, List.drop_nil, List.take_nil, List.nil_append, List.cons_append, List.append_nil, List.length_cons, List.length_nil, Nat.reduceAdd, Nat.zero_add, Nat.add_zero]; rfl) | rfl)) rfl ?_
  refine zab<| zbb<| zaf<| tx<| wP (za5 (by first | exact IntWalk.i64_in _ (by omega) | rfl)) rfl ?_
  refine wM rfl<| zab<| zaf ?_
  refine ⟨m - 1, by omega, _, zaJ (fun o => bif Nat.beq o 100 then 26 else o) [(2, .ref 2 0), (3, .ref 3 0), (12, .p (.sl l.length 5 L)), (13, .p (.v (.int .i64 l.length))), (14, .p (.v (.int .i64 (i + 1 : Nat))))] [(2, .box 24 [.p (.v (.string ⟨#[]⟩)), .p (.v (.int .i64 0)), .p (.v (.slice none 0 0))]), (3, .box 24 [.p (.v (.string key)), .p (.v (.int .i64 port)), .row 100]), (100, .row 60 5 (i + 1) (T ++ [.v (.string pk), .v (.string sh), .v (.string ep), .v (.int .i64 al), .sl nn.length 2 (nn.flatMap ntC)]))] ?_ ?_ rfl, i + 1, by omega, by rw [← hpush]; rfl⟩
  ·(repeat (first | exact trivial | (refine ⟨⟨(by first | rfl | (simp; done) | (simp; omega)), rfl⟩, ?_⟩)))
  ·exact ⟨⟨rfl, rfl⟩, ⟨rfl, rfl⟩, ⟨rfl, rfl⟩, trivial⟩
 have hge : i = l.length := by simp at h; omega
 clear h
 subst hge
 rw [List.take_length]
 refine zaI<| zaa<| tx<| wN U24 sz24 rfl ?_
 refine wG (zar (Y := .agg _) sz24 rfl (by first | exact Nat.eq_of_beq_eq_true rfl | (simp only [AV.cells, List.length_map]; first | assumption | omega)) (Nat.eq_of_beq_eq_true rfl)) rfl ?_
 refine zab<| zai ?_
 refine fT (fun _ => 100) (.cellN _ _ _ _ _ _ _ _ _ rfl rfl U24 rfl sz24 (by first | assumption | kernel_rfl) .nil) ?_ ?_
 ·exact rfl
 ·exact ⟨⟨rfl, rfl⟩, trivial⟩
theorem zd3 (e : Int) : Fn prog 23 [.p (.v (.int .i64 e))] (oErr e) [] := by
 show Fn prog _ _ (.tup [.agg [.p (.v (.string ⟨#[]⟩)), .p (.v (.int .i64 0)), .p (.v (.slice none 0 0))], .p (.v (.string ⟨#[]⟩)), .p (.v (.int .i64 e))]) _
 refine zaw F23 rfl (qE rfl) fun w0 A => zaa<| tx<| wG (zaF 2 zr24 rfl) rfl<| wA rfl<| wA rfl<| zab<| zaa<| tx<| wP (zaQ pl24 zr24 rfl rfl) rfl<| wM rfl<| wG (zar (Y := .agg _) sz24 rfl (by first | exact Nat.eq_of_beq_eq_true rfl | (simp only [AV.cells, List.length_map]; first | assumption | omega)) (Nat.eq_of_beq_eq_true rfl)) rfl ?_
 refine wA rfl<| wA rfl<| zab<| zai ?_
 refine fT (fun o => o) (.cellN _ _ _ _ _ _ _ _ _ rfl rfl U24 rfl sz24 (by first | assumption | kernel_rfl) (.tmp _ _ _ _ rfl (.tmp _ _ _ _ rfl .nil))) ?_ ?_
 ·exact rfl
 ·exact trivial
theorem refOne_bad (c : CF) (ok : c.OK) (pt : ByteArray) (s : SE) (sok : s.OK) (h : cfE c ≠ 0) : Fn prog 8 [.agg c.cells, .p (.v (.string pt)), .agg s.cells] (oErr (cfE c)) [] := by
 have hC := zbk c ok
 generalize cfE c = e at *
 obtain ⟨key, port, l⟩ := c
 obtain ⟨k, t, n, a, b⟩ := s
 have hN := zd3 (e)
 change Fn prog _ _ (.tup [.agg [.p (.v (.string ⟨#[]⟩)), .p (.v (.int .i64 0)), .p (.v (.slice none 0 0))], .p (.v (.string ⟨#[]⟩)), .p (.v (.int .i64 (e)))]) _ at hN
 show Fn prog _ [.agg (cfC key port l.length (l.flatMap PE.pv)), _, .agg [.p (.v (.int .i64 k)), .p (.v (.string t)), .p (.v (.int .i64 n)), .p (.v (.int .u32 a)), .p (.v (.int .i64 b))]] (.tup [.agg [.p (.v (.string ⟨#[]⟩)), .p (.v (.int .i64 0)), .p (.v (.slice none 0 0))], .p (.v (.string ⟨#[]⟩)), .p (.v (.int .i64 e))]) _
 change Fn prog _ [.agg (cfC key port l.length (l.flatMap PE.pv))] _ _ at hC
 clear ok sok
 generalize l.flatMap PE.pv = L at *
 refine zaw func8 rfl (qE rfl) fun w0 A => zaa<| tx<| wG (zaK (X := .agg _) 3 rfl) rfl<| wG (zaK (X := .agg _) 5 rfl) rfl<| wG (zaF 6 zr24 rfl) rfl<| wA rfl<| wA rfl<| zab<| zaa<| tx<| wP (zas (r := .fn _ _)) rfl<| zab<| zaa<| zaa<| tx<| wN U24 sz24 rfl ?_
 refine cS (fun n => 20 + 1000 * n) (hC) F24 ?_
 refine wA rfl<| zab<| zaa<| tx<| wM rfl<| wP (zaT (c := true) (by simpa using h)) rfl ?_
 refine zab<| zaf<| zax rfl<| zaa<| tx<| wP (zam (r := .fn _ _)) rfl<| wM rfl<| cS (fun n => 25 + 1000 * n) (hN) F23 ?_
 refine wP (zal rfl) rfl<| wP (zal rfl) rfl<| wP (zal rfl) rfl<| wG (zar (Y := .agg _) sz24 rfl (by first | exact Nat.eq_of_beq_eq_true rfl | (simp only [AV.cells, List.length_map]; first | assumption | omega)) (Nat.eq_of_beq_eq_true rfl)) rfl ?_
 refine wA rfl<| wA rfl<| zab<| zai<| zau ?_
 refine fT (fun o => o) (.cellN _ _ _ _ _ _ _ _ _ rfl rfl U24 rfl sz24 (by first | assumption | kernel_rfl) (.tmp _ _ _ _ rfl (.tmp _ _ _ _ rfl .nil))) ?_ ?_
 ·exact rfl
 ·exact trivial
theorem refOne_bad2 (c : CF) (ok : c.OK) (pt : ByteArray) (s : SE) (sok : s.OK) (h : cfE c = 0) (h2 : seE s ≠ 0) : Fn prog 8 [.agg c.cells, .p (.v (.string pt)), .agg s.cells] (oErr (seE s)) [] := by
 have hC := zbk c ok
 rw [h] at hC
 have hS := zbg s sok
 generalize seE s = e at *
 obtain ⟨key, port, l⟩ := c
 obtain ⟨k, t, n, a, b⟩ := s
 have hN := zd3 (e)
 change Fn prog _ _ (.tup [.agg [.p (.v (.string ⟨#[]⟩)), .p (.v (.int .i64 0)), .p (.v (.slice none 0 0))], .p (.v (.string ⟨#[]⟩)), .p (.v (.int .i64 (e)))]) _ at hN
 show Fn prog _ [.agg (cfC key port l.length (l.flatMap PE.pv)), _, .agg [.p (.v (.int .i64 k)), .p (.v (.string t)), .p (.v (.int .i64 n)), .p (.v (.int .u32 a)), .p (.v (.int .i64 b))]] (.tup [.agg [.p (.v (.string ⟨#[]⟩)), .p (.v (.int .i64 0)), .p (.v (.slice none 0 0))], .p (.v (.string ⟨#[]⟩)), .p (.v (.int .i64 e))]) _
 change Fn prog _ [.agg (cfC key port l.length (l.flatMap PE.pv))] _ _ at hC
 change Fn prog _ [.agg [.p (.v (.int .i64 k)), .p (.v (.string t)), .p (.v (.int .i64 n)), .p (.v (.int .u32 a)), .p (.v (.int .i64 b))]] _ _ at hS
 clear ok sok
 generalize l.flatMap PE.pv = L at *
 refine zaw func8 rfl (qE rfl) fun w0 A => zaa<| tx<| wG (zaK (X := .agg _) 3 rfl) rfl<| wG (zaK (X := .agg _) 5 rfl) rfl<| wG (zaF 6 zr24 rfl) rfl<| wA rfl<| wA rfl<| zab<| zaa<| tx<| wP (zas (r := .fn _ _)) rfl<| zab<| zaa<| zaa<| tx<| wN U24 sz24 rfl ?_
 refine cS (fun n => 20 + 1000 * n) (hC) F24 ?_
 refine wA rfl<| zab<| zaa<| tx<| wM rfl<| wP za3 rfl<| zab<| zaf<| zag rfl<| zae<| zaa<| zaa<| tx<| wN U29 sz29 rfl ?_
 refine cS (fun n => 30 + 1000 * n) (hS) F25 ?_
 refine wA rfl<| zab<| zaa<| tx<| wM rfl<| wP (zaT (c := true) (by simpa using h2)) rfl ?_
 refine zab<| zaf<| zax rfl<| zaa<| tx<| wP (zam (r := .fn _ _)) rfl<| wM rfl<| cS (fun n => 35 + 1000 * n) (hN) F23 ?_
 refine wP (zal rfl) rfl<| wP (zal rfl) rfl<| wP (zal rfl) rfl<| wG (zar (Y := .agg _) sz24 rfl (by first | exact Nat.eq_of_beq_eq_true rfl | (simp only [AV.cells, List.length_map]; first | assumption | omega)) (Nat.eq_of_beq_eq_true rfl)) rfl ?_
 refine wA rfl<| wA rfl<| zab<| zai<| zau ?_
 refine fT (fun o => o) (.cellN _ _ _ _ _ _ _ _ _ rfl rfl U24 rfl sz24 (by first | assumption | kernel_rfl) (.tmp _ _ _ _ rfl (.tmp _ _ _ _ rfl .nil))) ?_ ?_
 ·exact rfl
 ·exact trivial
set_option maxHeartbeats 8000000 in
theorem ref1a_s (key : ByteArray) (port : Int) (l : List PE) (ok : CF.OK ⟨key, port, l⟩) (pt : ByteArray) (t : ByteArray) (n a b : Int) (sok : SE.OK ⟨1, t, n, a, b⟩) (hc0 : cfE ⟨key, port, l⟩ = 0) (hs0 : seE ⟨1, t, n, a, b⟩ = 0) (h : peN t l < l.length) : Fn prog 8 [.agg (CF.cells ⟨key, port, l⟩), .p (.v (.string pt)), .agg (SE.cells ⟨1, t, n, a, b⟩)] (.tup [.agg [.p (.v (.string ⟨#[]⟩)), .p (.v (.int .i64 0)), .p (.v (.slice none 0 0))], .p (.v (.string ⟨#[]⟩)), .p (.v (.int .i64 14))]) [] := by
 have hC := zbk ⟨key, port, l⟩ ok
 rw [hc0] at hC
 have hS := zbg ⟨1, t, n, a, b⟩ sok
 rw [hs0] at hS
 have hK := zbp ⟨key, port, l⟩ ok
 have hA := za6 ⟨key, port, l⟩ ok t
 have hA2 := za6 ⟨key, port, l⟩ ok pt
 have hn := ok.len
 dsimp only at hn
 change Fn prog _ [.agg (cfC key port l.length (l.flatMap PE.pv))] _ _ at hC hK
 change Fn prog _ [.agg (cfC key port l.length (l.flatMap PE.pv)), _] (.p (.v (.int .i64 (peN t l : Nat)))) _ at hA
 change Fn prog _ [.agg (cfC key port l.length (l.flatMap PE.pv)), _] (.p (.v (.int .i64 (peN pt l : Nat)))) _ at hA2
 change Fn prog _ [.agg [.p (.v (.int .i64 1)), .p (.v (.string t)), .p (.v (.int .i64 n)), .p (.v (.int .u32 a)), .p (.v (.int .i64 b))]] _ _ at hS
 show Fn prog _ [.agg (cfC key port l.length (l.flatMap PE.pv)), _, .agg [.p (.v (.int .i64 1)), .p (.v (.string t)), .p (.v (.int .i64 n)), .p (.v (.int .u32 a)), .p (.v (.int .i64 b))]] _ _
 have hN := zd3 (14)
 change Fn prog _ _ (.tup [.agg [.p (.v (.string ⟨#[]⟩)), .p (.v (.int .i64 0)), .p (.v (.slice none 0 0))], .p (.v (.string ⟨#[]⟩)), .p (.v (.int .i64 14))]) _ at hN
 clear ok sok hc0 hs0
 generalize l.flatMap PE.pv = L at *
 generalize peN t l = T at *
 refine zaw func8 rfl (qE rfl) fun w0 A => zaa<| tx<| wG (zaK (X := .agg _) 3 rfl) rfl<| wG (zaK (X := .agg _) 5 rfl) rfl<| wG (zaF 6 zr24 rfl) rfl<| wA rfl<| wA rfl<| zab<| zaa<| tx<| wP (zas (r := .fn _ _)) rfl<| zab<| zaa<| zaa<| tx<| wN U24 sz24 rfl ?_
 refine cS (fun n => 20 + 1000 * n) (hC) F24 ?_
 refine wA rfl<| zab<| zaa<| tx<| wM rfl<| wP za3 rfl<| zab<| zaf<| zag rfl<| zae<| zaa<| zaa<| tx<| wN U29 sz29 rfl ?_
 refine cS (fun n => 30 + 1000 * n) (hS) F25 ?_
 refine wA rfl<| zab<| zaa<| tx<| wM rfl<| wP za3 rfl<| zab<| zaf<| zag rfl<| zae<| zaa<| tx<| wN U24 sz24 rfl ?_
 refine cS (fun _ => 40) (hK) F26 ?_
 refine wG (zaF 12 zr24 rfl) rfl<| wG (zar (Y := .agg _) sz24 rfl (by first | exact Nat.eq_of_beq_eq_true rfl | (simp only [AV.cells, List.length_map]; first | assumption | omega)) (Nat.eq_of_beq_eq_true rfl)) rfl ?_
 refine zab ?_
 refine zaf (zbl (zaJ id [(1, .p (.v (.string pt))), (3, .ref 3 0), (5, .ref 5 0), (6, .ref 6 0), (9, .fn 23 []), (12, .ref 12 0)] [(3, .box 24 (cfC key port l.length L)), (5, .box 29 [.p (.v (.int .i64 1)), .p (.v (.string t)), .p (.v (.int .i64 n)), .p (.v (.int .u32 a)), .p (.v (.int .i64 b))]), (6, .box 24 [.p (.v (.string ⟨#[]⟩)), .p (.v (.int .i64 0)), .p (.v (.slice none 0 0))]), (12, .box 24 [.p (.v (.string key)), .p (.v (.int .i64 port)), .row 40]), (40, .row 60 5 l.length L)] (by repeat (first | exact trivial | refine ⟨⟨rfl, rfl⟩, ?_⟩)) (by repeat (first | exact trivial | refine ⟨⟨rfl, rfl⟩, ?_⟩)) rfl) ?_)
 refine zaa<| tx<| wN U24 sz24 rfl ?_
 refine wF zaD rfl<| wL U9 rfl<| yV (fun n => 44 + 1000 * n) (hA) F27 ?_
 refine wA rfl<| zab<| zaa<| tx<| wM rfl<| wF zaH rfl<| wL U22 rfl<| wG (zbd U22) rfl<| wP (zbc (c := true) (by first | (simp; done) | (simp; omega))) rfl ?_
 refine wA rfl<| zab<| zaa<| zaa<| tx<| wF zav rfl<| wL U3 rfl<| zab<| zak<| zaa<| tx<| wP zaZ rfl<| wA rfl<| zab<| zaf<| zax rfl<| zaa<| zaa<| tx<| wM rfl<| zab<| zaf<| zax rfl<| zaa ?_
 refine tx<| wP (zam (r := .fn _ _)) rfl<| cS (fun n => 56 + 1000 * n) (hN) F23 ?_
 refine wP (zal rfl) rfl<| wP (zal rfl) rfl<| wP (zal rfl) rfl<| wG (zar (Y := .agg _) sz24 rfl (by first | exact Nat.eq_of_beq_eq_true rfl | (simp only [AV.cells, List.length_map]; first | assumption | omega)) (Nat.eq_of_beq_eq_true rfl)) rfl ?_
 refine wA rfl<| wA rfl<| zab<| zai<| zau<| zaU<| zau ?_
 refine fT (fun o => o) (.cellN _ _ _ _ _ _ _ _ _ rfl rfl U24 rfl sz24 (by first | assumption | kernel_rfl) (.tmp _ _ _ _ rfl (.tmp _ _ _ _ rfl .nil))) ?_ ?_
 ·exact rfl
 ·exact trivial
set_option maxHeartbeats 8000000 in
theorem ref1b_s (key : ByteArray) (port : Int) (l : List PE) (ok : CF.OK ⟨key, port, l⟩) (pt : ByteArray) (t : ByteArray) (n a b : Int) (sok : SE.OK ⟨1, t, n, a, b⟩) (hc0 : cfE ⟨key, port, l⟩ = 0) (hs0 : seE ⟨1, t, n, a, b⟩ = 0) (h : ¬ peN t l < l.length) : Fn prog 8 [.agg (CF.cells ⟨key, port, l⟩), .p (.v (.string pt)), .agg (SE.cells ⟨1, t, n, a, b⟩)] (.tup [.agg [.p (.v (.string t)), .p (.v (.int .i64 port)), .row 0], .p (.v (.string ⟨#[]⟩)), .p (.v (.int .i64 0))]) [(0, .row 60 5 l.length (l.flatMap PE.pv))] := by
 have hC := zbk ⟨key, port, l⟩ ok
 rw [hc0] at hC
 have hS := zbg ⟨1, t, n, a, b⟩ sok
 rw [hs0] at hS
 have hK := zbp ⟨key, port, l⟩ ok
 have hA := za6 ⟨key, port, l⟩ ok t
 have hA2 := za6 ⟨key, port, l⟩ ok pt
 have hn := ok.len
 dsimp only at hn
 change Fn prog _ [.agg (cfC key port l.length (l.flatMap PE.pv))] _ _ at hC hK
 change Fn prog _ [.agg (cfC key port l.length (l.flatMap PE.pv)), _] (.p (.v (.int .i64 (peN t l : Nat)))) _ at hA
 change Fn prog _ [.agg (cfC key port l.length (l.flatMap PE.pv)), _] (.p (.v (.int .i64 (peN pt l : Nat)))) _ at hA2
 change Fn prog _ [.agg [.p (.v (.int .i64 1)), .p (.v (.string t)), .p (.v (.int .i64 n)), .p (.v (.int .u32 a)), .p (.v (.int .i64 b))]] _ _ at hS
 show Fn prog _ [.agg (cfC key port l.length (l.flatMap PE.pv)), _, .agg [.p (.v (.int .i64 1)), .p (.v (.string t)), .p (.v (.int .i64 n)), .p (.v (.int .u32 a)), .p (.v (.int .i64 b))]] _ _
 clear ok sok hc0 hs0
 generalize l.flatMap PE.pv = L at *
 generalize peN t l = T at *
 refine zaw func8 rfl (qE rfl) fun w0 A => zaa<| tx<| wG (zaK (X := .agg _) 3 rfl) rfl<| wG (zaK (X := .agg _) 5 rfl) rfl<| wG (zaF 6 zr24 rfl) rfl<| wA rfl<| wA rfl<| zab<| zaa<| tx<| wP (zas (r := .fn _ _)) rfl<| zab<| zaa<| zaa<| tx<| wN U24 sz24 rfl ?_
 refine cS (fun n => 20 + 1000 * n) (hC) F24 ?_
 refine wA rfl<| zab<| zaa<| tx<| wM rfl<| wP za3 rfl<| zab<| zaf<| zag rfl<| zae<| zaa<| zaa<| tx<| wN U29 sz29 rfl ?_
 refine cS (fun n => 30 + 1000 * n) (hS) F25 ?_
 refine wA rfl<| zab<| zaa<| tx<| wM rfl<| wP za3 rfl<| zab<| zaf<| zag rfl<| zae<| zaa<| tx<| wN U24 sz24 rfl ?_
 refine cS (fun _ => 40) (hK) F26 ?_
 refine wG (zaF 12 zr24 rfl) rfl<| wG (zar (Y := .agg _) sz24 rfl (by first | exact Nat.eq_of_beq_eq_true rfl | (simp only [AV.cells, List.length_map]; first | assumption | omega)) (Nat.eq_of_beq_eq_true rfl)) rfl ?_
 refine zab ?_
 refine zaf (zbl (zaJ id [(1, .p (.v (.string pt))), (3, .ref 3 0), (5, .ref 5 0), (6, .ref 6 0), (9, .fn 23 []), (12, .ref 12 0)] [(3, .box 24 (cfC key port l.length L)), (5, .box 29 [.p (.v (.int .i64 1)), .p (.v (.string t)), .p (.v (.int .i64 n)), .p (.v (.int .u32 a)), .p (.v (.int .i64 b))]), (6, .box 24 [.p (.v (.string ⟨#[]⟩)), .p (.v (.int .i64 0)), .p (.v (.slice none 0 0))]), (12, .box 24 [.p (.v (.string key)), .p (.v (.int .i64 port)), .row 40]), (40, .row 60 5 l.length L)] (by repeat (first | exact trivial | refine ⟨⟨rfl, rfl⟩, ?_⟩)) (by repeat (first | exact trivial | refine ⟨⟨rfl, rfl⟩, ?_⟩)) rfl) ?_)
 refine zaa<| tx<| wN U24 sz24 rfl ?_
 refine wF zaD rfl<| wL U9 rfl<| yV (fun n => 44 + 1000 * n) (hA) F27 ?_
 refine wA rfl<| zab<| zaa<| tx<| wM rfl<| wF zaH rfl<| wL U22 rfl<| wG (zbd U22) rfl<| wP (zbc (c := false) (by first | (simp; done) | (simp; omega))) rfl ?_
 refine wA rfl<| zab<| zaa<| zaa<| tx<| wF zav rfl<| wL U3 rfl<| zab<| zak<| zaa<| tx<| wP zaZ rfl<| wA rfl<| zab<| zaf<| zax rfl<| zaa<| zaa<| tx<| wM rfl<| zab<| zaf<| zag rfl<| zae<| zaa ?_
 refine tx<| wF zaD rfl<| wL U9 rfl<| wF zbD rfl<| wG (zbX (Y := .p _) sz9 rfl (by first | exact Nat.eq_of_beq_eq_true rfl | (simp only [AV.cells, List.length_map]; first | assumption | omega)) (by first | exact Nat.le_of_ble_eq_true rfl | omega | (simp only [AV.cells, List.length_map]; omega)) (by first | (simp only [setR, AV.cells, List.take_succ_cons, List.take_zero, List.drop_succ_cons, List.drop_zero, List.drop_nil, List.take_nil, List.nil_append, List.cons_append, List.append_nil, List.length_cons, List.length_nil, Nat.reduceAdd, Nat.zero_add, Nat.add_zero]; rfl) | rfl)) rfl ?_
 refine zab<| zaa<| tx<| wN U24 sz24 rfl ?_
 refine wG (zar (Y := .agg _) sz24 rfl (by first | exact Nat.eq_of_beq_eq_true rfl | (simp only [AV.cells, List.length_map]; first | assumption | omega)) (Nat.eq_of_beq_eq_true rfl)) rfl ?_
 refine wA rfl<| wA rfl<| zab<| zai<| zaU<| zau ?_
 refine fT (fun _ => 40) (.cellN _ _ _ _ _ _ _ _ _ rfl rfl U24 rfl sz24 (by first | assumption | kernel_rfl) (.tmp _ _ _ _ rfl (.tmp _ _ _ _ rfl .nil))) ?_ ?_
 ·exact rfl
 ·exact ⟨⟨rfl, rfl⟩, trivial⟩
set_option maxHeartbeats 8000000 in
theorem ref2_s (key : ByteArray) (port : Int) (l : List PE) (ok : CF.OK ⟨key, port, l⟩) (pt : ByteArray) (t : ByteArray) (n a b : Int) (sok : SE.OK ⟨2, t, n, a, b⟩) (hc0 : cfE ⟨key, port, l⟩ = 0) (hs0 : seE ⟨2, t, n, a, b⟩ = 0) : Fn prog 8 [.agg (CF.cells ⟨key, port, l⟩), .p (.v (.string pt)), .agg (SE.cells ⟨2, t, n, a, b⟩)] (.tup [.agg [.p (.v (.string key)), .p (.v (.int .i64 n)), .row 0], .p (.v (.string ⟨#[]⟩)), .p (.v (.int .i64 0))]) [(0, .row 60 5 l.length (l.flatMap PE.pv))] := by
 have hC := zbk ⟨key, port, l⟩ ok
 rw [hc0] at hC
 have hS := zbg ⟨2, t, n, a, b⟩ sok
 rw [hs0] at hS
 have hK := zbp ⟨key, port, l⟩ ok
 have hA := za6 ⟨key, port, l⟩ ok t
 have hA2 := za6 ⟨key, port, l⟩ ok pt
 have hn := ok.len
 dsimp only at hn
 change Fn prog _ [.agg (cfC key port l.length (l.flatMap PE.pv))] _ _ at hC hK
 change Fn prog _ [.agg (cfC key port l.length (l.flatMap PE.pv)), _] (.p (.v (.int .i64 (peN t l : Nat)))) _ at hA
 change Fn prog _ [.agg (cfC key port l.length (l.flatMap PE.pv)), _] (.p (.v (.int .i64 (peN pt l : Nat)))) _ at hA2
 change Fn prog _ [.agg [.p (.v (.int .i64 2)), .p (.v (.string t)), .p (.v (.int .i64 n)), .p (.v (.int .u32 a)), .p (.v (.int .i64 b))]] _ _ at hS
 show Fn prog _ [.agg (cfC key port l.length (l.flatMap PE.pv)), _, .agg [.p (.v (.int .i64 2)), .p (.v (.string t)), .p (.v (.int .i64 n)), .p (.v (.int .u32 a)), .p (.v (.int .i64 b))]] _ _
 clear ok sok hc0 hs0
 generalize l.flatMap PE.pv = L at *
 generalize peN t l = T at *
 refine zaw func8 rfl (qE rfl) fun w0 A => zaa<| tx<| wG (zaK (X := .agg _) 3 rfl) rfl<| wG (zaK (X := .agg _) 5 rfl) rfl<| wG (zaF 6 zr24 rfl) rfl<| wA rfl<| wA rfl<| zab<| zaa<| tx<| wP (zas (r := .fn _ _)) rfl<| zab<| zaa<| zaa<| tx<| wN U24 sz24 rfl ?_
 refine cS (fun n => 20 + 1000 * n) (hC) F24 ?_
 refine wA rfl<| zab<| zaa<| tx<| wM rfl<| wP za3 rfl<| zab<| zaf<| zag rfl<| zae<| zaa<| zaa<| tx<| wN U29 sz29 rfl ?_
 refine cS (fun n => 30 + 1000 * n) (hS) F25 ?_
 refine wA rfl<| zab<| zaa<| tx<| wM rfl<| wP za3 rfl<| zab<| zaf<| zag rfl<| zae<| zaa<| tx<| wN U24 sz24 rfl ?_
 refine cS (fun _ => 40) (hK) F26 ?_
 refine wG (zaF 12 zr24 rfl) rfl<| wG (zar (Y := .agg _) sz24 rfl (by first | exact Nat.eq_of_beq_eq_true rfl | (simp only [AV.cells, List.length_map]; first | assumption | omega)) (Nat.eq_of_beq_eq_true rfl)) rfl ?_
 refine zab ?_
 refine zaf (zbl (zaJ id [(1, .p (.v (.string pt))), (3, .ref 3 0), (5, .ref 5 0), (6, .ref 6 0), (9, .fn 23 []), (12, .ref 12 0)] [(3, .box 24 (cfC key port l.length L)), (5, .box 29 [.p (.v (.int .i64 2)), .p (.v (.string t)), .p (.v (.int .i64 n)), .p (.v (.int .u32 a)), .p (.v (.int .i64 b))]), (6, .box 24 [.p (.v (.string ⟨#[]⟩)), .p (.v (.int .i64 0)), .p (.v (.slice none 0 0))]), (12, .box 24 [.p (.v (.string key)), .p (.v (.int .i64 port)), .row 40]), (40, .row 60 5 l.length L)] (by repeat (first | exact trivial | refine ⟨⟨rfl, rfl⟩, ?_⟩)) (by repeat (first | exact trivial | refine ⟨⟨rfl, rfl⟩, ?_⟩)) rfl) ?_)
 refine zaa<| tx<| wN U24 sz24 rfl ?_
 refine wF zaD rfl<| wL U9 rfl<| yV (fun n => 44 + 1000 * n) (hA) F27 ?_
 refine wA rfl<| zab<| zaa<| tx<| wM rfl<| wF zaH rfl<| wL U22 rfl<| wG (zbd U22) rfl<| wP (zbc (c := decide (T < l.length)) (by first | (simp; done) | (simp; omega))) rfl ?_
 refine wA rfl<| zab<| zaa<| zaa<| tx<| wF zav rfl<| wL U3 rfl<| zab<| zak<| zaa<| tx<| wP zaz rfl<| wA rfl<| zab<| zaf<| zag rfl<| zaa<| tx<| wP zaZ rfl<| wA rfl<| zab<| zaf<| zax rfl<| zaa ?_
 refine tx<| wF zaM rfl<| wL U3 rfl<| wF zew rfl<| wG (zbX (Y := .p _) sz3 rfl (by first | exact Nat.eq_of_beq_eq_true rfl | (simp only [AV.cells, List.length_map]; first | assumption | omega)) (by first | exact Nat.le_of_ble_eq_true rfl | omega | (simp only [AV.cells, List.length_map]; omega)) (by first | (simp only [setR, AV.cells, List.take_succ_cons, List.take_zero, List.drop_succ_cons, List.drop_zero, List.drop_nil, List.take_nil, List.nil_append, List.cons_append, List.append_nil, List.length_cons, List.length_nil, Nat.reduceAdd, Nat.zero_add, Nat.add_zero]; rfl) | rfl)) rfl ?_
 refine zab<| zaa<| tx<| wN U24 sz24 rfl ?_
 refine wG (zar (Y := .agg _) sz24 rfl (by first | exact Nat.eq_of_beq_eq_true rfl | (simp only [AV.cells, List.length_map]; first | assumption | omega)) (Nat.eq_of_beq_eq_true rfl)) rfl ?_
 refine wA rfl<| wA rfl<| zab<| zai<| zaU<| zau ?_
 refine fT (fun _ => 40) (.cellN _ _ _ _ _ _ _ _ _ rfl rfl U24 rfl sz24 (by first | assumption | kernel_rfl) (.tmp _ _ _ _ rfl (.tmp _ _ _ _ rfl .nil))) ?_ ?_
 ·exact rfl
 ·exact ⟨⟨rfl, rfl⟩, trivial⟩
set_option maxHeartbeats 8000000 in
theorem ref3_s (key : ByteArray) (port : Int) (l : List PE) (ok : CF.OK ⟨key, port, l⟩) (pt : ByteArray) (t : ByteArray) (n a b : Int) (sok : SE.OK ⟨3, t, n, a, b⟩) (hc0 : cfE ⟨key, port, l⟩ = 0) (hs0 : seE ⟨3, t, n, a, b⟩ = 0) : Fn prog 8 [.agg (CF.cells ⟨key, port, l⟩), .p (.v (.string pt)), .agg (SE.cells ⟨3, t, n, a, b⟩)] (.tup [.agg [.p (.v (.string key)), .p (.v (.int .i64 port)), .p (.sl 0 5 [])], .p (.v (.string ⟨#[]⟩)), .p (.v (.int .i64 0))]) [] := by
 have hC := zbk ⟨key, port, l⟩ ok
 rw [hc0] at hC
 have hS := zbg ⟨3, t, n, a, b⟩ sok
 rw [hs0] at hS
 have hK := zbp ⟨key, port, l⟩ ok
 have hA := za6 ⟨key, port, l⟩ ok t
 have hA2 := za6 ⟨key, port, l⟩ ok pt
 have hn := ok.len
 dsimp only at hn
 change Fn prog _ [.agg (cfC key port l.length (l.flatMap PE.pv))] _ _ at hC hK
 change Fn prog _ [.agg (cfC key port l.length (l.flatMap PE.pv)), _] (.p (.v (.int .i64 (peN t l : Nat)))) _ at hA
 change Fn prog _ [.agg (cfC key port l.length (l.flatMap PE.pv)), _] (.p (.v (.int .i64 (peN pt l : Nat)))) _ at hA2
 change Fn prog _ [.agg [.p (.v (.int .i64 3)), .p (.v (.string t)), .p (.v (.int .i64 n)), .p (.v (.int .u32 a)), .p (.v (.int .i64 b))]] _ _ at hS
 show Fn prog _ [.agg (cfC key port l.length (l.flatMap PE.pv)), _, .agg [.p (.v (.int .i64 3)), .p (.v (.string t)), .p (.v (.int .i64 n)), .p (.v (.int .u32 a)), .p (.v (.int .i64 b))]] _ _
 clear ok sok hc0 hs0
 generalize l.flatMap PE.pv = L at *
 generalize peN t l = T at *
 refine zaw func8 rfl (qE rfl) fun w0 A => zaa<| tx<| wG (zaK (X := .agg _) 3 rfl) rfl<| wG (zaK (X := .agg _) 5 rfl) rfl<| wG (zaF 6 zr24 rfl) rfl<| wA rfl<| wA rfl<| zab<| zaa<| tx<| wP (zas (r := .fn _ _)) rfl<| zab<| zaa<| zaa<| tx<| wN U24 sz24 rfl ?_
 refine cS (fun n => 20 + 1000 * n) (hC) F24 ?_
 refine wA rfl<| zab<| zaa<| tx<| wM rfl<| wP za3 rfl<| zab<| zaf<| zag rfl<| zae<| zaa<| zaa<| tx<| wN U29 sz29 rfl ?_
 refine cS (fun n => 30 + 1000 * n) (hS) F25 ?_
 refine wA rfl<| zab<| zaa<| tx<| wM rfl<| wP za3 rfl<| zab<| zaf<| zag rfl<| zae<| zaa<| tx<| wN U24 sz24 rfl ?_
 refine cS (fun _ => 40) (hK) F26 ?_
 refine wG (zaF 12 zr24 rfl) rfl<| wG (zar (Y := .agg _) sz24 rfl (by first | exact Nat.eq_of_beq_eq_true rfl | (simp only [AV.cells, List.length_map]; first | assumption | omega)) (Nat.eq_of_beq_eq_true rfl)) rfl ?_
 refine zab ?_
 refine zaf (zbl (zaJ id [(1, .p (.v (.string pt))), (3, .ref 3 0), (5, .ref 5 0), (6, .ref 6 0), (9, .fn 23 []), (12, .ref 12 0)] [(3, .box 24 (cfC key port l.length L)), (5, .box 29 [.p (.v (.int .i64 3)), .p (.v (.string t)), .p (.v (.int .i64 n)), .p (.v (.int .u32 a)), .p (.v (.int .i64 b))]), (6, .box 24 [.p (.v (.string ⟨#[]⟩)), .p (.v (.int .i64 0)), .p (.v (.slice none 0 0))]), (12, .box 24 [.p (.v (.string key)), .p (.v (.int .i64 port)), .row 40]), (40, .row 60 5 l.length L)] (by repeat (first | exact trivial | refine ⟨⟨rfl, rfl⟩, ?_⟩)) (by repeat (first | exact trivial | refine ⟨⟨rfl, rfl⟩, ?_⟩)) rfl) ?_)
 refine zaa<| tx<| wN U24 sz24 rfl ?_
 refine wF zaD rfl<| wL U9 rfl<| yV (fun n => 44 + 1000 * n) (hA) F27 ?_
 refine wA rfl<| zab<| zaa<| tx<| wM rfl<| wF zaH rfl<| wL U22 rfl<| wG (zbd U22) rfl<| wP (zbc (c := decide (T < l.length)) (by first | (simp; done) | (simp; omega))) rfl ?_
 refine wA rfl<| zab<| zaa<| zaa<| tx<| wF zav rfl<| wL U3 rfl<| zab<| zak<| zaa<| tx<| wP zaz rfl<| wA rfl<| zab<| zaf<| zag rfl<| zaa<| tx<| wP zaz rfl<| wA rfl<| zab<| zaf<| zag rfl<| zaa ?_
 refine tx<| wP zaZ rfl<| wA rfl<| zab<| zaf<| zax rfl<| zaa<| tx<| wF zaH rfl<| wG (zfP (nil_sl (.ref 12 (0 + 2)) 5) (zbX (es := [.p (.v (.string key)), .p (.v (.int .i64 port)), .p (.sl 0 5 [])]) sz22 rfl rfl (qE rfl) rfl)) rfl<| zab<| zaa<| tx<| wN U24 sz24 rfl ?_
 refine wG (zar (Y := .agg _) sz24 rfl (by first | exact Nat.eq_of_beq_eq_true rfl | (simp only [AV.cells, List.length_map]; first | assumption | omega)) (Nat.eq_of_beq_eq_true rfl)) rfl ?_
 refine wA rfl<| wA rfl<| zab<| zai<| zaU<| zau ?_
 refine fT (fun o => o) (.cellN _ _ _ _ _ _ _ _ _ rfl rfl U24 rfl sz24 (by first | assumption | kernel_rfl) (.tmp _ _ _ _ rfl (.tmp _ _ _ _ rfl .nil))) ?_ ?_
 ·exact rfl
 ·exact trivial
set_option maxHeartbeats 8000000 in
theorem ref4own_s (key : ByteArray) (port : Int) (l : List PE) (ok : CF.OK ⟨key, port, l⟩) (pt : ByteArray) (t : ByteArray) (n a b : Int) (sok : SE.OK ⟨4, t, n, a, b⟩) (hc0 : cfE ⟨key, port, l⟩ = 0) (hs0 : seE ⟨4, t, n, a, b⟩ = 0) (h : t = key) : Fn prog 8 [.agg (CF.cells ⟨key, port, l⟩), .p (.v (.string pt)), .agg (SE.cells ⟨4, t, n, a, b⟩)] (.tup [.agg [.p (.v (.string ⟨#[]⟩)), .p (.v (.int .i64 0)), .p (.v (.slice none 0 0))], .p (.v (.string ⟨#[]⟩)), .p (.v (.int .i64 14))]) [] := by
 have hC := zbk ⟨key, port, l⟩ ok
 rw [hc0] at hC
 have hS := zbg ⟨4, t, n, a, b⟩ sok
 rw [hs0] at hS
 have hK := zbp ⟨key, port, l⟩ ok
 have hA := za6 ⟨key, port, l⟩ ok t
 have hA2 := za6 ⟨key, port, l⟩ ok pt
 have hn := ok.len
 dsimp only at hn
 change Fn prog _ [.agg (cfC key port l.length (l.flatMap PE.pv))] _ _ at hC hK
 change Fn prog _ [.agg (cfC key port l.length (l.flatMap PE.pv)), _] (.p (.v (.int .i64 (peN t l : Nat)))) _ at hA
 change Fn prog _ [.agg (cfC key port l.length (l.flatMap PE.pv)), _] (.p (.v (.int .i64 (peN pt l : Nat)))) _ at hA2
 change Fn prog _ [.agg [.p (.v (.int .i64 4)), .p (.v (.string t)), .p (.v (.int .i64 n)), .p (.v (.int .u32 a)), .p (.v (.int .i64 b))]] _ _ at hS
 show Fn prog _ [.agg (cfC key port l.length (l.flatMap PE.pv)), _, .agg [.p (.v (.int .i64 4)), .p (.v (.string t)), .p (.v (.int .i64 n)), .p (.v (.int .u32 a)), .p (.v (.int .i64 b))]] _ _
 have hN := zd3 (14)
 change Fn prog _ _ (.tup [.agg [.p (.v (.string ⟨#[]⟩)), .p (.v (.int .i64 0)), .p (.v (.slice none 0 0))], .p (.v (.string ⟨#[]⟩)), .p (.v (.int .i64 14))]) _ at hN
 clear ok sok hc0 hs0
 generalize l.flatMap PE.pv = L at *
 generalize peN t l = T at *
 refine zaw func8 rfl (qE rfl) fun w0 A => zaa<| tx<| wG (zaK (X := .agg _) 3 rfl) rfl<| wG (zaK (X := .agg _) 5 rfl) rfl<| wG (zaF 6 zr24 rfl) rfl<| wA rfl<| wA rfl<| zab<| zaa<| tx<| wP (zas (r := .fn _ _)) rfl<| zab<| zaa<| zaa<| tx<| wN U24 sz24 rfl ?_
 refine cS (fun n => 20 + 1000 * n) (hC) F24 ?_
 refine wA rfl<| zab<| zaa<| tx<| wM rfl<| wP za3 rfl<| zab<| zaf<| zag rfl<| zae<| zaa<| zaa<| tx<| wN U29 sz29 rfl ?_
 refine cS (fun n => 30 + 1000 * n) (hS) F25 ?_
 refine wA rfl<| zab<| zaa<| tx<| wM rfl<| wP za3 rfl<| zab<| zaf<| zag rfl<| zae<| zaa<| tx<| wN U24 sz24 rfl ?_
 refine cS (fun _ => 40) (hK) F26 ?_
 refine wG (zaF 12 zr24 rfl) rfl<| wG (zar (Y := .agg _) sz24 rfl (by first | exact Nat.eq_of_beq_eq_true rfl | (simp only [AV.cells, List.length_map]; first | assumption | omega)) (Nat.eq_of_beq_eq_true rfl)) rfl ?_
 refine zab ?_
 refine zaf (zbl (zaJ id [(1, .p (.v (.string pt))), (3, .ref 3 0), (5, .ref 5 0), (6, .ref 6 0), (9, .fn 23 []), (12, .ref 12 0)] [(3, .box 24 (cfC key port l.length L)), (5, .box 29 [.p (.v (.int .i64 4)), .p (.v (.string t)), .p (.v (.int .i64 n)), .p (.v (.int .u32 a)), .p (.v (.int .i64 b))]), (6, .box 24 [.p (.v (.string ⟨#[]⟩)), .p (.v (.int .i64 0)), .p (.v (.slice none 0 0))]), (12, .box 24 [.p (.v (.string key)), .p (.v (.int .i64 port)), .row 40]), (40, .row 60 5 l.length L)] (by repeat (first | exact trivial | refine ⟨⟨rfl, rfl⟩, ?_⟩)) (by repeat (first | exact trivial | refine ⟨⟨rfl, rfl⟩, ?_⟩)) rfl) ?_)
 refine zaa<| tx<| wN U24 sz24 rfl ?_
 refine wF zaD rfl<| wL U9 rfl<| yV (fun n => 44 + 1000 * n) (hA) F27 ?_
 refine wA rfl<| zab<| zaa<| tx<| wM rfl<| wF zaH rfl<| wL U22 rfl<| wG (zbd U22) rfl<| wP (zbc (c := decide (T < l.length)) (by first | (simp; done) | (simp; omega))) rfl ?_
 refine wA rfl<| zab<| zaa<| zaa<| tx<| wF zav rfl<| wL U3 rfl<| zab<| zak<| zaa<| tx<| wP zaz rfl<| wA rfl<| zab<| zaf<| zag rfl<| zaa<| tx<| wP zaz rfl<| wA rfl<| zab<| zaf<| zag rfl<| zaa ?_
 refine tx<| wP zaz rfl<| wA rfl<| zab<| zaf<| zag rfl<| zaa<| tx<| wP zaZ rfl<| wA rfl<| zab<| zaf<| zax rfl<| zaa<| zaa<| tx<| wF zaD rfl<| wL U9 rfl<| wF zbD rfl<| wL U9 rfl<| wP (zaE (c := true) (by simp [h])) rfl ?_
 refine zab<| zaf<| zax rfl<| zaa<| tx<| wP (zam (r := .fn _ _)) rfl<| cS (fun n => 82 + 1000 * n) (hN) F23 ?_
 refine wP (zal rfl) rfl<| wP (zal rfl) rfl<| wP (zal rfl) rfl<| wG (zar (Y := .agg _) sz24 rfl (by first | exact Nat.eq_of_beq_eq_true rfl | (simp only [AV.cells, List.length_map]; first | assumption | omega)) (Nat.eq_of_beq_eq_true rfl)) rfl ?_
 refine wA rfl<| wA rfl<| zab<| zai<| zau<| zaU<| zau ?_
 refine fT (fun o => o) (.cellN _ _ _ _ _ _ _ _ _ rfl rfl U24 rfl sz24 (by first | assumption | kernel_rfl) (.tmp _ _ _ _ rfl (.tmp _ _ _ _ rfl .nil))) ?_ ?_
 ·exact rfl
 ·exact trivial
set_option maxHeartbeats 8000000 in
theorem ref4old_s (key : ByteArray) (port : Int) (l : List PE) (ok : CF.OK ⟨key, port, l⟩) (pt : ByteArray) (t : ByteArray) (n a b : Int) (sok : SE.OK ⟨4, t, n, a, b⟩) (hc0 : cfE ⟨key, port, l⟩ = 0) (hs0 : seE ⟨4, t, n, a, b⟩ = 0) (h0 : t ≠ key) (h : peN t l < l.length) : Fn prog 8 [.agg (CF.cells ⟨key, port, l⟩), .p (.v (.string pt)), .agg (SE.cells ⟨4, t, n, a, b⟩)] (.tup [.agg [.p (.v (.string key)), .p (.v (.int .i64 port)), .row 0], .p (.v (.string t)), .p (.v (.int .i64 0))]) [(0, .row 60 5 l.length (l.flatMap PE.pv))] := by
 have hC := zbk ⟨key, port, l⟩ ok
 rw [hc0] at hC
 have hS := zbg ⟨4, t, n, a, b⟩ sok
 rw [hs0] at hS
 have hK := zbp ⟨key, port, l⟩ ok
 have hA := za6 ⟨key, port, l⟩ ok t
 have hA2 := za6 ⟨key, port, l⟩ ok pt
 have hn := ok.len
 dsimp only at hn
 change Fn prog _ [.agg (cfC key port l.length (l.flatMap PE.pv))] _ _ at hC hK
 change Fn prog _ [.agg (cfC key port l.length (l.flatMap PE.pv)), _] (.p (.v (.int .i64 (peN t l : Nat)))) _ at hA
 change Fn prog _ [.agg (cfC key port l.length (l.flatMap PE.pv)), _] (.p (.v (.int .i64 (peN pt l : Nat)))) _ at hA2
 change Fn prog _ [.agg [.p (.v (.int .i64 4)), .p (.v (.string t)), .p (.v (.int .i64 n)), .p (.v (.int .u32 a)), .p (.v (.int .i64 b))]] _ _ at hS
 show Fn prog _ [.agg (cfC key port l.length (l.flatMap PE.pv)), _, .agg [.p (.v (.int .i64 4)), .p (.v (.string t)), .p (.v (.int .i64 n)), .p (.v (.int .u32 a)), .p (.v (.int .i64 b))]] _ _
 clear ok sok hc0 hs0
 generalize l.flatMap PE.pv = L at *
 generalize peN t l = T at *
 refine zaw func8 rfl (qE rfl) fun w0 A => zaa<| tx<| wG (zaK (X := .agg _) 3 rfl) rfl<| wG (zaK (X := .agg _) 5 rfl) rfl<| wG (zaF 6 zr24 rfl) rfl<| wA rfl<| wA rfl<| zab<| zaa<| tx<| wP (zas (r := .fn _ _)) rfl<| zab<| zaa<| zaa<| tx<| wN U24 sz24 rfl ?_
 refine cS (fun n => 20 + 1000 * n) (hC) F24 ?_
 refine wA rfl<| zab<| zaa<| tx<| wM rfl<| wP za3 rfl<| zab<| zaf<| zag rfl<| zae<| zaa<| zaa<| tx<| wN U29 sz29 rfl ?_
 refine cS (fun n => 30 + 1000 * n) (hS) F25 ?_
 refine wA rfl<| zab<| zaa<| tx<| wM rfl<| wP za3 rfl<| zab<| zaf<| zag rfl<| zae<| zaa<| tx<| wN U24 sz24 rfl ?_
 refine cS (fun _ => 40) (hK) F26 ?_
 refine wG (zaF 12 zr24 rfl) rfl<| wG (zar (Y := .agg _) sz24 rfl (by first | exact Nat.eq_of_beq_eq_true rfl | (simp only [AV.cells, List.length_map]; first | assumption | omega)) (Nat.eq_of_beq_eq_true rfl)) rfl ?_
 refine zab ?_
 refine zaf (zbl (zaJ id [(1, .p (.v (.string pt))), (3, .ref 3 0), (5, .ref 5 0), (6, .ref 6 0), (9, .fn 23 []), (12, .ref 12 0)] [(3, .box 24 (cfC key port l.length L)), (5, .box 29 [.p (.v (.int .i64 4)), .p (.v (.string t)), .p (.v (.int .i64 n)), .p (.v (.int .u32 a)), .p (.v (.int .i64 b))]), (6, .box 24 [.p (.v (.string ⟨#[]⟩)), .p (.v (.int .i64 0)), .p (.v (.slice none 0 0))]), (12, .box 24 [.p (.v (.string key)), .p (.v (.int .i64 port)), .row 40]), (40, .row 60 5 l.length L)] (by repeat (first | exact trivial | refine ⟨⟨rfl, rfl⟩, ?_⟩)) (by repeat (first | exact trivial | refine ⟨⟨rfl, rfl⟩, ?_⟩)) rfl) ?_)
 refine zaa<| tx<| wN U24 sz24 rfl ?_
 refine wF zaD rfl<| wL U9 rfl<| yV (fun n => 44 + 1000 * n) (hA) F27 ?_
 refine wA rfl<| zab<| zaa<| tx<| wM rfl<| wF zaH rfl<| wL U22 rfl<| wG (zbd U22) rfl<| wP (zbc (c := true) (by first | (simp; done) | (simp; omega))) rfl ?_
 refine wA rfl<| zab<| zaa<| zaa<| tx<| wF zav rfl<| wL U3 rfl<| zab<| zak<| zaa<| tx<| wP zaz rfl<| wA rfl<| zab<| zaf<| zag rfl<| zaa<| tx<| wP zaz rfl<| wA rfl<| zab<| zaf<| zag rfl<| zaa ?_
 refine tx<| wP zaz rfl<| wA rfl<| zab<| zaf<| zag rfl<| zaa<| tx<| wP zaZ rfl<| wA rfl<| zab<| zaf<| zax rfl<| zaa<| zaa<| tx<| wF zaD rfl<| wL U9 rfl<| wF zbD rfl<| wL U9 rfl<| wP (zaE (c := false) (by simp [h0])) rfl ?_
 refine zab<| zaf<| zag rfl<| zae<| zaa<| zaa<| tx<| wM rfl<| wP zba rfl<| wM rfl<| wS rfl<| wS rfl<| wS rfl<| wS rfl<| wP zaj rfl<| zab<| zaf<| zag rfl<| zae<| zaa<| zaa<| tx<| wM rfl<| wP zba rfl ?_
 refine zab<| zaf<| zag rfl<| zae<| zaa<| zaB 4 qK<| wN U24 sz24 rfl ?_
 refine wF zaD rfl<| wL U9 rfl<| wG (zar (Y := .agg _) sz24 rfl (by first | exact Nat.eq_of_beq_eq_true rfl | (simp only [AV.cells, List.length_map]; first | assumption | omega)) (Nat.eq_of_beq_eq_true rfl)) rfl ?_
 refine wA rfl<| wA rfl<| zab ⟨qK, ?_⟩
 refine zai<| zaU<| zau ?_
 refine fT (fun _ => 40) (.cellN _ _ _ _ _ _ _ _ _ rfl rfl U24 rfl sz24 (by first | assumption | kernel_rfl) (.tmp _ _ _ _ rfl (.tmp _ _ _ _ rfl .nil))) ?_ ?_
 ·exact rfl
 ·exact ⟨⟨rfl, rfl⟩, trivial⟩
set_option maxHeartbeats 8000000 in
theorem ref4full_s (key : ByteArray) (port : Int) (l : List PE) (ok : CF.OK ⟨key, port, l⟩) (pt : ByteArray) (t : ByteArray) (n a b : Int) (sok : SE.OK ⟨4, t, n, a, b⟩) (hc0 : cfE ⟨key, port, l⟩ = 0) (hs0 : seE ⟨4, t, n, a, b⟩ = 0) (h0 : t ≠ key) (h : ¬ peN t l < l.length) (h2 : l.length = 6) : Fn prog 8 [.agg (CF.cells ⟨key, port, l⟩), .p (.v (.string pt)), .agg (SE.cells ⟨4, t, n, a, b⟩)] (.tup [.agg [.p (.v (.string ⟨#[]⟩)), .p (.v (.int .i64 0)), .p (.v (.slice none 0 0))], .p (.v (.string ⟨#[]⟩)), .p (.v (.int .i64 7))]) [] := by
 have hC := zbk ⟨key, port, l⟩ ok
 rw [hc0] at hC
 have hS := zbg ⟨4, t, n, a, b⟩ sok
 rw [hs0] at hS
 have hK := zbp ⟨key, port, l⟩ ok
 have hA := za6 ⟨key, port, l⟩ ok t
 have hA2 := za6 ⟨key, port, l⟩ ok pt
 have hn := ok.len
 dsimp only at hn
 change Fn prog _ [.agg (cfC key port l.length (l.flatMap PE.pv))] _ _ at hC hK
 change Fn prog _ [.agg (cfC key port l.length (l.flatMap PE.pv)), _] (.p (.v (.int .i64 (peN t l : Nat)))) _ at hA
 change Fn prog _ [.agg (cfC key port l.length (l.flatMap PE.pv)), _] (.p (.v (.int .i64 (peN pt l : Nat)))) _ at hA2
 change Fn prog _ [.agg [.p (.v (.int .i64 4)), .p (.v (.string t)), .p (.v (.int .i64 n)), .p (.v (.int .u32 a)), .p (.v (.int .i64 b))]] _ _ at hS
 show Fn prog _ [.agg (cfC key port l.length (l.flatMap PE.pv)), _, .agg [.p (.v (.int .i64 4)), .p (.v (.string t)), .p (.v (.int .i64 n)), .p (.v (.int .u32 a)), .p (.v (.int .i64 b))]] _ _
 have hN := zd3 (7)
 change Fn prog _ _ (.tup [.agg [.p (.v (.string ⟨#[]⟩)), .p (.v (.int .i64 0)), .p (.v (.slice none 0 0))], .p (.v (.string ⟨#[]⟩)), .p (.v (.int .i64 7))]) _ at hN
 clear ok sok hc0 hs0
 generalize l.flatMap PE.pv = L at *
 generalize peN t l = T at *
 refine zaw func8 rfl (qE rfl) fun w0 A => zaa<| tx<| wG (zaK (X := .agg _) 3 rfl) rfl<| wG (zaK (X := .agg _) 5 rfl) rfl<| wG (zaF 6 zr24 rfl) rfl<| wA rfl<| wA rfl<| zab<| zaa<| tx<| wP (zas (r := .fn _ _)) rfl<| zab<| zaa<| zaa<| tx<| wN U24 sz24 rfl ?_
 refine cS (fun n => 20 + 1000 * n) (hC) F24 ?_
 refine wA rfl<| zab<| zaa<| tx<| wM rfl<| wP za3 rfl<| zab<| zaf<| zag rfl<| zae<| zaa<| zaa<| tx<| wN U29 sz29 rfl ?_
 refine cS (fun n => 30 + 1000 * n) (hS) F25 ?_
 refine wA rfl<| zab<| zaa<| tx<| wM rfl<| wP za3 rfl<| zab<| zaf<| zag rfl<| zae<| zaa<| tx<| wN U24 sz24 rfl ?_
 refine cS (fun _ => 40) (hK) F26 ?_
 refine wG (zaF 12 zr24 rfl) rfl<| wG (zar (Y := .agg _) sz24 rfl (by first | exact Nat.eq_of_beq_eq_true rfl | (simp only [AV.cells, List.length_map]; first | assumption | omega)) (Nat.eq_of_beq_eq_true rfl)) rfl ?_
 refine zab ?_
 refine zaf (zbl (zaJ id [(1, .p (.v (.string pt))), (3, .ref 3 0), (5, .ref 5 0), (6, .ref 6 0), (9, .fn 23 []), (12, .ref 12 0)] [(3, .box 24 (cfC key port l.length L)), (5, .box 29 [.p (.v (.int .i64 4)), .p (.v (.string t)), .p (.v (.int .i64 n)), .p (.v (.int .u32 a)), .p (.v (.int .i64 b))]), (6, .box 24 [.p (.v (.string ⟨#[]⟩)), .p (.v (.int .i64 0)), .p (.v (.slice none 0 0))]), (12, .box 24 [.p (.v (.string key)), .p (.v (.int .i64 port)), .row 40]), (40, .row 60 5 l.length L)] (by repeat (first | exact trivial | refine ⟨⟨rfl, rfl⟩, ?_⟩)) (by repeat (first | exact trivial | refine ⟨⟨rfl, rfl⟩, ?_⟩)) rfl) ?_)
 refine zaa<| tx<| wN U24 sz24 rfl ?_
 refine wF zaD rfl<| wL U9 rfl<| yV (fun n => 44 + 1000 * n) (hA) F27 ?_
 refine wA rfl<| zab<| zaa<| tx<| wM rfl<| wF zaH rfl<| wL U22 rfl<| wG (zbd U22) rfl<| wP (zbc (c := false) (by first | (simp; done) | (simp; omega))) rfl ?_
 refine wA rfl<| zab<| zaa<| zaa<| tx<| wF zav rfl<| wL U3 rfl<| zab<| zak<| zaa<| tx<| wP zaz rfl<| wA rfl<| zab<| zaf<| zag rfl<| zaa<| tx<| wP zaz rfl<| wA rfl<| zab<| zaf<| zag rfl<| zaa ?_
 refine tx<| wP zaz rfl<| wA rfl<| zab<| zaf<| zag rfl<| zaa<| tx<| wP zaZ rfl<| wA rfl<| zab<| zaf<| zax rfl<| zaa<| zaa<| tx<| wF zaD rfl<| wL U9 rfl<| wF zbD rfl<| wL U9 rfl<| wP (zaE (c := false) (by simp [h0])) rfl ?_
 refine zab<| zaf<| zag rfl<| zae<| zaa<| zaa<| tx<| wM rfl<| wP zba rfl<| wM rfl<| wF zaH rfl<| wL U22 rfl<| wG (zbd U22) rfl<| wP (zbP (c := true) (by simp [h2])) rfl ?_
 refine wP zao rfl<| zab<| zaf<| zax rfl<| zaa<| tx<| wP (zam (r := .fn _ _)) rfl<| cS (fun n => 95 + 1000 * n) (hN) F23 ?_
 refine wP (zal rfl) rfl<| wP (zal rfl) rfl<| wP (zal rfl) rfl<| wG (zar (Y := .agg _) sz24 rfl (by first | exact Nat.eq_of_beq_eq_true rfl | (simp only [AV.cells, List.length_map]; first | assumption | omega)) (Nat.eq_of_beq_eq_true rfl)) rfl ?_
 refine wA rfl<| wA rfl<| zab<| zai<| zau<| zaU<| zau ?_
 refine fT (fun o => o) (.cellN _ _ _ _ _ _ _ _ _ rfl rfl U24 rfl sz24 (by first | assumption | kernel_rfl) (.tmp _ _ _ _ rfl (.tmp _ _ _ _ rfl .nil))) ?_ ?_
 ·exact rfl
 ·exact trivial
set_option maxHeartbeats 8000000 in
theorem ref4new_s (key : ByteArray) (port : Int) (l : List PE) (ok : CF.OK ⟨key, port, l⟩) (pt : ByteArray) (t : ByteArray) (n a b : Int) (sok : SE.OK ⟨4, t, n, a, b⟩) (hc0 : cfE ⟨key, port, l⟩ = 0) (hs0 : seE ⟨4, t, n, a, b⟩ = 0) (h0 : t ≠ key) (h : ¬ peN t l < l.length) (h2 : l.length < 6) : Fn prog 8 [.agg (CF.cells ⟨key, port, l⟩), .p (.v (.string pt)), .agg (SE.cells ⟨4, t, n, a, b⟩)] (.tup [.agg [.p (.v (.string key)), .p (.v (.int .i64 port)), .row 0], .p (.v (.string t)), .p (.v (.int .i64 0))]) [(0, .row 60 5 (l.length + 1) ((zcr gtP (l ++ [newP t])).flatMap PE.pv))] := by
 have hC := zbk ⟨key, port, l⟩ ok
 rw [hc0] at hC
 have hS := zbg ⟨4, t, n, a, b⟩ sok
 rw [hs0] at hS
 have hK := zbp ⟨key, port, l⟩ ok
 have hA := za6 ⟨key, port, l⟩ ok t
 have hA2 := za6 ⟨key, port, l⟩ ok pt
 have hn := ok.len
 dsimp only at hn
 change Fn prog _ [.agg (cfC key port l.length (l.flatMap PE.pv))] _ _ at hC hK
 change Fn prog _ [.agg (cfC key port l.length (l.flatMap PE.pv)), _] (.p (.v (.int .i64 (peN t l : Nat)))) _ at hA
 change Fn prog _ [.agg (cfC key port l.length (l.flatMap PE.pv)), _] (.p (.v (.int .i64 (peN pt l : Nat)))) _ at hA2
 change Fn prog _ [.agg [.p (.v (.int .i64 4)), .p (.v (.string t)), .p (.v (.int .i64 n)), .p (.v (.int .u32 a)), .p (.v (.int .i64 b))]] _ _ at hS
 show Fn prog _ [.agg (cfC key port l.length (l.flatMap PE.pv)), _, .agg [.p (.v (.int .i64 4)), .p (.v (.string t)), .p (.v (.int .i64 n)), .p (.v (.int .u32 a)), .p (.v (.int .i64 b))]] _ _
 have hSo := sortedP_s (l ++ [newP t]) (by rw [List.length_append]; simp; omega)
 have hap : l.flatMap PE.pv ++ (newP t).pv = (l ++ [newP t]).flatMap PE.pv := by rw [List.flatMap_append]; simp
 rw [show (l ++ [newP t]).length = l.length + 1 by simp] at hSo
 generalize (zcr gtP (l ++ [newP t])).flatMap PE.pv = L2 at *
 generalize (l ++ [newP t]).flatMap PE.pv = L3 at *
 clear ok sok hc0 hs0
 generalize l.flatMap PE.pv = L at *
 generalize peN t l = T at *
 refine zaw func8 rfl (qE rfl) fun w0 A => zaa<| tx<| wG (zaK (X := .agg _) 3 rfl) rfl<| wG (zaK (X := .agg _) 5 rfl) rfl<| wG (zaF 6 zr24 rfl) rfl<| wA rfl<| wA rfl<| zab<| zaa<| tx<| wP (zas (r := .fn _ _)) rfl<| zab<| zaa<| zaa<| tx<| wN U24 sz24 rfl ?_
 refine cS (fun n => 20 + 1000 * n) (hC) F24 ?_
 refine wA rfl<| zab<| zaa<| tx<| wM rfl<| wP za3 rfl<| zab<| zaf<| zag rfl<| zae<| zaa<| zaa<| tx<| wN U29 sz29 rfl ?_
 refine cS (fun n => 30 + 1000 * n) (hS) F25 ?_
 refine wA rfl<| zab<| zaa<| tx<| wM rfl<| wP za3 rfl<| zab<| zaf<| zag rfl<| zae<| zaa<| tx<| wN U24 sz24 rfl ?_
 refine cS (fun _ => 40) (hK) F26 ?_
 refine wG (zaF 12 zr24 rfl) rfl<| wG (zar (Y := .agg _) sz24 rfl (by first | exact Nat.eq_of_beq_eq_true rfl | (simp only [AV.cells, List.length_map]; first | assumption | omega)) (Nat.eq_of_beq_eq_true rfl)) rfl ?_
 refine zab ?_
 refine zaf (zbl (zaJ id [(1, .p (.v (.string pt))), (3, .ref 3 0), (5, .ref 5 0), (6, .ref 6 0), (9, .fn 23 []), (12, .ref 12 0)] [(3, .box 24 (cfC key port l.length L)), (5, .box 29 [.p (.v (.int .i64 4)), .p (.v (.string t)), .p (.v (.int .i64 n)), .p (.v (.int .u32 a)), .p (.v (.int .i64 b))]), (6, .box 24 [.p (.v (.string ⟨#[]⟩)), .p (.v (.int .i64 0)), .p (.v (.slice none 0 0))]), (12, .box 24 [.p (.v (.string key)), .p (.v (.int .i64 port)), .row 40]), (40, .row 60 5 l.length L)] (by repeat (first | exact trivial | refine ⟨⟨rfl, rfl⟩, ?_⟩)) (by repeat (first | exact trivial | refine ⟨⟨rfl, rfl⟩, ?_⟩)) rfl) ?_)
 refine zaa<| tx<| wN U24 sz24 rfl ?_
 refine wF zaD rfl<| wL U9 rfl<| yV (fun n => 44 + 1000 * n) (hA) F27 ?_
 refine wA rfl<| zab<| zaa<| tx<| wM rfl<| wF zaH rfl<| wL U22 rfl<| wG (zbd U22) rfl<| wP (zbc (c := false) (by first | (simp; done) | (simp; omega))) rfl ?_
 refine wA rfl<| zab<| zaa<| zaa<| tx<| wF zav rfl<| wL U3 rfl<| zab<| zak<| zaa<| tx<| wP zaz rfl<| wA rfl<| zab<| zaf<| zag rfl<| zaa<| tx<| wP zaz rfl<| wA rfl<| zab<| zaf<| zag rfl<| zaa ?_
 refine tx<| wP zaz rfl<| wA rfl<| zab<| zaf<| zag rfl<| zaa<| tx<| wP zaZ rfl<| wA rfl<| zab<| zaf<| zax rfl<| zaa<| zaa<| tx<| wF zaD rfl<| wL U9 rfl<| wF zbD rfl<| wL U9 rfl<| wP (zaE (c := false) (by simp [h0])) rfl ?_
 refine zab<| zaf<| zag rfl<| zae<| zaa<| zaa<| tx<| wM rfl<| wP zba rfl<| wM rfl<| wF zaH rfl<| wL U22 rfl<| wG (zbd U22) rfl<| wP (zbP (c := false) (by simp; omega)) rfl ?_
 refine wP zao rfl<| zab<| zaf<| zag rfl<| zae<| zaa<| zaa<| tx<| wM rfl<| wP zba rfl<| zab<| zaf<| zax rfl ?_
 skip
 refine tx<| wF zaH rfl<| wL U22 rfl<| wF zaD rfl<| wL U9 rfl<| wP (zaQ pl60 zr60 rfl rfl) rfl<| wG (zfP (newP_view t) (zaO (es := (newP t).cells) (cs := (newP t).pv) (xs := [.agg (newP t).cells]) 106 U22 sz60 zc60 (qE rfl) (qE rfl) rfl rfl rfl rfl (qE rfl))) rfl<| zah (zbe 107 U22 eo60 (zb5) (by simp only [maxLen]; omega) (by omega) rfl hap) rfl rfl ⟨rfl, rfl, rfl, trivial⟩ ?_
 refine r_callW (fun n => 108 + 1000 * n) (hSo) rfl rfl func28 rfl rfl rfl rfl rfl rfl rfl (by first | exact trivial | exact ⟨rfl, trivial⟩ | exact ⟨rfl, rfl, trivial⟩ | exact ⟨rfl, rfl, rfl, rfl, rfl, trivial⟩) rfl rfl rfl ?_
 refine wF zaH rfl<| wG (zbX (Y := .row _) sz22 rfl (by first | exact Nat.eq_of_beq_eq_true rfl | (simp only [AV.cells, List.length_map]; first | assumption | omega)) (by first | exact Nat.le_of_ble_eq_true rfl | omega | (simp only [AV.cells, List.length_map]; omega)) (by first | (simp only [setR, AV.cells, List.take_succ_cons, List.take_zero, List.drop_succ_cons, List.drop_zero, List.drop_nil, List.take_nil, List.nil_append, List.cons_append, List.append_nil, List.length_cons, List.length_nil, Nat.reduceAdd, Nat.zero_add, Nat.add_zero]; rfl) | rfl)) rfl ?_
 refine zab<| zaa<| zaB 4 qK<| wN U24 sz24 rfl ?_
 refine wF zaD rfl<| wL U9 rfl<| wG (zar (Y := .agg _) sz24 rfl (by first | exact Nat.eq_of_beq_eq_true rfl | (simp only [AV.cells, List.length_map]; first | assumption | omega)) (Nat.eq_of_beq_eq_true rfl)) rfl ?_
 refine wA rfl<| wA rfl<| zab ⟨qK, ?_⟩
 refine zai<| zaU<| zau ?_
 refine fT (fun _ => 108) (.cellN _ _ _ _ _ _ _ _ _ rfl rfl U24 rfl sz24 (by first | assumption | kernel_rfl) (.tmp _ _ _ _ rfl (.tmp _ _ _ _ rfl .nil))) ?_ ?_
 ·exact rfl
 ·exact ⟨⟨rfl, rfl⟩, trivial⟩
set_option maxHeartbeats 8000000 in
theorem zc7 (k : Int) (key : ByteArray) (port : Int) (l : List PE) (ok : CF.OK ⟨key, port, l⟩) (pt : ByteArray) (t : ByteArray) (n a b : Int) (sok : SE.OK ⟨k, t, n, a, b⟩) (hc0 : cfE ⟨key, port, l⟩ = 0) (hs0 : seE ⟨k, t, n, a, b⟩ = 0) (h1 : k ≠ 1) (h2 : k ≠ 2) (h3 : k ≠ 3) (h4 : k ≠ 4) (h : pt = ⟨#[]⟩ ∨ ¬ peN pt l < l.length) : Fn prog 8 [.agg (CF.cells ⟨key, port, l⟩), .p (.v (.string pt)), .agg (SE.cells ⟨k, t, n, a, b⟩)] (.tup [.agg [.p (.v (.string ⟨#[]⟩)), .p (.v (.int .i64 0)), .p (.v (.slice none 0 0))], .p (.v (.string ⟨#[]⟩)), .p (.v (.int .i64 13))]) [] := by
 have hC := zbk ⟨key, port, l⟩ ok
 rw [hc0] at hC
 have hS := zbg ⟨k, t, n, a, b⟩ sok
 rw [hs0] at hS
 have hK := zbp ⟨key, port, l⟩ ok
 have hA := za6 ⟨key, port, l⟩ ok t
 have hA2 := za6 ⟨key, port, l⟩ ok pt
 have hn := ok.len
 dsimp only at hn
 change Fn prog _ [.agg (cfC key port l.length (l.flatMap PE.pv))] _ _ at hC hK
 change Fn prog _ [.agg (cfC key port l.length (l.flatMap PE.pv)), _] (.p (.v (.int .i64 (peN t l : Nat)))) _ at hA
 change Fn prog _ [.agg (cfC key port l.length (l.flatMap PE.pv)), _] (.p (.v (.int .i64 (peN pt l : Nat)))) _ at hA2
 change Fn prog _ [.agg [.p (.v (.int .i64 k)), .p (.v (.string t)), .p (.v (.int .i64 n)), .p (.v (.int .u32 a)), .p (.v (.int .i64 b))]] _ _ at hS
 show Fn prog _ [.agg (cfC key port l.length (l.flatMap PE.pv)), _, .agg [.p (.v (.int .i64 k)), .p (.v (.string t)), .p (.v (.int .i64 n)), .p (.v (.int .u32 a)), .p (.v (.int .i64 b))]] _ _
 have hN := zd3 (13)
 change Fn prog _ _ (.tup [.agg [.p (.v (.string ⟨#[]⟩)), .p (.v (.int .i64 0)), .p (.v (.slice none 0 0))], .p (.v (.string ⟨#[]⟩)), .p (.v (.int .i64 13))]) _ at hN
 have hU := peN_le pt l
 generalize peN pt l = U at *
 clear ok sok hc0 hs0
 generalize l.flatMap PE.pv = L at *
 generalize peN t l = T at *
 refine zaw func8 rfl (qE rfl) fun w0 A => zaa<| tx<| wG (zaK (X := .agg _) 3 rfl) rfl<| wG (zaK (X := .agg _) 5 rfl) rfl<| wG (zaF 6 zr24 rfl) rfl<| wA rfl<| wA rfl<| zab<| zaa<| tx<| wP (zas (r := .fn _ _)) rfl<| zab<| zaa<| zaa<| tx<| wN U24 sz24 rfl ?_
 refine cS (fun n => 20 + 1000 * n) (hC) F24 ?_
 refine wA rfl<| zab<| zaa<| tx<| wM rfl<| wP za3 rfl<| zab<| zaf<| zag rfl<| zae<| zaa<| zaa<| tx<| wN U29 sz29 rfl ?_
 refine cS (fun n => 30 + 1000 * n) (hS) F25 ?_
 refine wA rfl<| zab<| zaa<| tx<| wM rfl<| wP za3 rfl<| zab<| zaf<| zag rfl<| zae<| zaa<| tx<| wN U24 sz24 rfl ?_
 refine cS (fun _ => 40) (hK) F26 ?_
 refine wG (zaF 12 zr24 rfl) rfl<| wG (zar (Y := .agg _) sz24 rfl (by first | exact Nat.eq_of_beq_eq_true rfl | (simp only [AV.cells, List.length_map]; first | assumption | omega)) (Nat.eq_of_beq_eq_true rfl)) rfl ?_
 refine zab ?_
 refine zaf (zbl (zaJ id [(1, .p (.v (.string pt))), (3, .ref 3 0), (5, .ref 5 0), (6, .ref 6 0), (9, .fn 23 []), (12, .ref 12 0)] [(3, .box 24 (cfC key port l.length L)), (5, .box 29 [.p (.v (.int .i64 k)), .p (.v (.string t)), .p (.v (.int .i64 n)), .p (.v (.int .u32 a)), .p (.v (.int .i64 b))]), (6, .box 24 [.p (.v (.string ⟨#[]⟩)), .p (.v (.int .i64 0)), .p (.v (.slice none 0 0))]), (12, .box 24 [.p (.v (.string key)), .p (.v (.int .i64 port)), .row 40]), (40, .row 60 5 l.length L)] (by repeat (first | exact trivial | refine ⟨⟨rfl, rfl⟩, ?_⟩)) (by repeat (first | exact trivial | refine ⟨⟨rfl, rfl⟩, ?_⟩)) rfl) ?_)
 refine zaa<| tx<| wN U24 sz24 rfl ?_
 refine wF zaD rfl<| wL U9 rfl<| yV (fun n => 44 + 1000 * n) (hA) F27 ?_
 refine wA rfl<| zab<| zaa<| tx<| wM rfl<| wF zaH rfl<| wL U22 rfl<| wG (zbd U22) rfl<| wP (zbc (c := decide (T < l.length)) (by first | (simp; done) | (simp; omega))) rfl ?_
 refine wA rfl<| zab<| zaa<| zaa<| tx<| wF zav rfl<| wL U3 rfl<| zab<| zak<| zaa<| tx<| wP (zbx (c := false) (by simp [h1])) rfl ?_
 refine wA rfl<| zab<| zaf<| zag rfl<| zaa<| tx<| wP (zbx (c := false) (by simp [h2])) rfl ?_
 refine wA rfl<| zab<| zaf<| zag rfl<| zaa<| tx<| wP (zbx (c := false) (by simp [h3])) rfl ?_
 refine wA rfl<| zab<| zaf<| zag rfl<| zaa<| tx<| wP (zbx (c := false) (by simp [h4])) rfl ?_
 refine wA rfl<| zab<| zaf<| zag rfl<| zae<| zaa<| tx<| wN U24 sz24 rfl ?_
 refine wM rfl<| yV (fun n => 115 + 1000 * n) (hA2) F27 ?_
 refine wA rfl<| zab ?_
 by_cases h0 : pt = ⟨#[]⟩
 ·refine zaa<| zaa<| tx<| wM rfl<| wP (zaE (c := true) (by simp [h0])) rfl ?_
  refine wM rfl<| wS rfl<| wS rfl<| wS rfl<| wS rfl<| wS rfl<| wP zao rfl<| zab<| zaf<| zax rfl<| zaa<| tx<| wP (zam (r := .fn _ _)) rfl<| cS (fun n => 126 + 1000 * n) (hN) F23 ?_
  refine wP (zal rfl) rfl<| wP (zal rfl) rfl<| wP (zal rfl) rfl<| wG (zar (Y := .agg _) sz24 rfl (by first | exact Nat.eq_of_beq_eq_true rfl | (simp only [AV.cells, List.length_map]; first | assumption | omega)) (Nat.eq_of_beq_eq_true rfl)) rfl ?_
  refine wA rfl<| wA rfl<| zab<| zai<| zau ?_
  refine fT (fun o => o) (.cellN _ _ _ _ _ _ _ _ _ rfl rfl U24 rfl sz24 (by first | assumption | kernel_rfl) (.tmp _ _ _ _ rfl (.tmp _ _ _ _ rfl .nil))) ?_ ?_
  ·exact rfl
  ·exact trivial
 ·have hJ : U = l.length := by
   have := h.resolve_left h0
   omega
  refine zaa<| zaa<| tx<| wM rfl<| wP (zaE (c := false) (by simp [h0])) rfl ?_
  refine wM rfl<| wM rfl<| wF zaH rfl<| wL U22 rfl<| wG (zbd U22) rfl<| wP (zbx (c := true) (by simp [hJ])) rfl ?_
  refine wP zaj rfl<| zab<| zaf<| zax rfl<| zaa<| tx<| wP (zam (r := .fn _ _)) rfl<| cS (fun n => 126 + 1000 * n) (hN) F23 ?_
  refine wP (zal rfl) rfl<| wP (zal rfl) rfl<| wP (zal rfl) rfl<| wG (zar (Y := .agg _) sz24 rfl (by first | exact Nat.eq_of_beq_eq_true rfl | (simp only [AV.cells, List.length_map]; first | assumption | omega)) (Nat.eq_of_beq_eq_true rfl)) rfl ?_
  refine wA rfl<| wA rfl<| zab<| zai<| zau ?_
  refine fT (fun o => o) (.cellN _ _ _ _ _ _ _ _ _ rfl rfl U24 rfl sz24 (by first | assumption | kernel_rfl) (.tmp _ _ _ _ rfl (.tmp _ _ _ _ rfl .nil))) ?_ ?_
  ·exact rfl
  ·exact trivial
set_option maxHeartbeats 8000000 in
theorem ref5_s (key : ByteArray) (port : Int) (l : List PE) (ok : CF.OK ⟨key, port, l⟩) (pt : ByteArray) (t : ByteArray) (n a b : Int) (sok : SE.OK ⟨5, t, n, a, b⟩) (hc0 : cfE ⟨key, port, l⟩ = 0) (hs0 : seE ⟨5, t, n, a, b⟩ = 0) (h0 : pt ≠ ⟨#[]⟩) (h : peN pt l < l.length) : Fn prog 8 [.agg (CF.cells ⟨key, port, l⟩), .p (.v (.string pt)), .agg (SE.cells ⟨5, t, n, a, b⟩)] (.tup [.agg [.p (.v (.string key)), .p (.v (.int .i64 port)), .row 0], .p (.v (.string ⟨#[]⟩)), .p (.v (.int .i64 0))]) [(0, .row 60 5 (l.length - 1) ((l.take (peN pt l) ++ l.drop (peN pt l + 1)).flatMap PE.pv))] := by
 have hC := zbk ⟨key, port, l⟩ ok
 rw [hc0] at hC
 have hS := zbg ⟨5, t, n, a, b⟩ sok
 rw [hs0] at hS
 have hK := zbp ⟨key, port, l⟩ ok
 have hA := za6 ⟨key, port, l⟩ ok t
 have hA2 := za6 ⟨key, port, l⟩ ok pt
 have hn := ok.len
 dsimp only at hn
 change Fn prog _ [.agg (cfC key port l.length (l.flatMap PE.pv))] _ _ at hC hK
 change Fn prog _ [.agg (cfC key port l.length (l.flatMap PE.pv)), _] (.p (.v (.int .i64 (peN t l : Nat)))) _ at hA
 change Fn prog _ [.agg (cfC key port l.length (l.flatMap PE.pv)), _] (.p (.v (.int .i64 (peN pt l : Nat)))) _ at hA2
 change Fn prog _ [.agg [.p (.v (.int .i64 5)), .p (.v (.string t)), .p (.v (.int .i64 n)), .p (.v (.int .u32 a)), .p (.v (.int .i64 b))]] _ _ at hS
 show Fn prog _ [.agg (cfC key port l.length (l.flatMap PE.pv)), _, .agg [.p (.v (.int .i64 5)), .p (.v (.string t)), .p (.v (.int .i64 n)), .p (.v (.int .u32 a)), .p (.v (.int .i64 b))]] _ _
 have hL0 : (l.flatMap PE.pv).length = l.length * 5 := zaW (f := PE.pv) (k := 5) (fun _ => rfl) l
 have hap : (l.flatMap PE.pv).take (peN pt l * 5) ++ ((l.flatMap PE.pv).drop ((peN pt l + 1) * 5)).take ((l.length - (peN pt l + 1)) * 5) = (l.take (peN pt l) ++ l.drop (peN pt l + 1)).flatMap PE.pv := by
  have h1 : ((l.take (peN pt l)).flatMap PE.pv).length = peN pt l * 5 := by rw [zaW (f := PE.pv) (k := 5) (fun _ => rfl), List.length_take, Nat.min_eq_left (by omega)]
  have h2 : ((l.take (peN pt l + 1)).flatMap PE.pv).length = (peN pt l + 1) * 5 := by rw [zaW (f := PE.pv) (k := 5) (fun _ => rfl), List.length_take, Nat.min_eq_left (by omega)]
  have h3 : l.flatMap PE.pv = (l.take (peN pt l)).flatMap PE.pv ++ (l.drop (peN pt l)).flatMap PE.pv := by rw [← List.flatMap_append, List.take_append_drop]
  have h4 : l.flatMap PE.pv = (l.take (peN pt l + 1)).flatMap PE.pv ++ (l.drop (peN pt l + 1)).flatMap PE.pv := by rw [← List.flatMap_append, List.take_append_drop]
  have h5 : ((l.flatMap PE.pv).drop ((peN pt l + 1) * 5)).take ((l.length - (peN pt l + 1)) * 5) = (l.flatMap PE.pv).drop ((peN pt l + 1) * 5) := List.take_of_length_le (by rw [List.length_drop, hL0, ← Nat.sub_mul]; exact Nat.le_refl _)
  have h6 : (l.flatMap PE.pv).take (peN pt l * 5) = (l.take (peN pt l)).flatMap PE.pv := by rw [← h1, h3, List.take_left]
  have h7 : (l.flatMap PE.pv).drop ((peN pt l + 1) * 5) = (l.drop (peN pt l + 1)).flatMap PE.pv := by rw [← h2, h4, List.drop_left]
  rw [h5, h6, h7, List.flatMap_append]
 generalize (l.take (peN pt l) ++ l.drop (peN pt l + 1)).flatMap PE.pv = L2 at *
 generalize peN pt l = U at *
 clear ok sok hc0 hs0
 generalize l.flatMap PE.pv = L at *
 generalize peN t l = T at *
 refine zaw func8 rfl (qE rfl) fun w0 A => zaa<| tx<| wG (zaK (X := .agg _) 3 rfl) rfl<| wG (zaK (X := .agg _) 5 rfl) rfl<| wG (zaF 6 zr24 rfl) rfl<| wA rfl<| wA rfl<| zab<| zaa<| tx<| wP (zas (r := .fn _ _)) rfl<| zab<| zaa<| zaa<| tx<| wN U24 sz24 rfl ?_
 refine cS (fun n => 20 + 1000 * n) (hC) F24 ?_
 refine wA rfl<| zab<| zaa<| tx<| wM rfl<| wP za3 rfl<| zab<| zaf<| zag rfl<| zae<| zaa<| zaa<| tx<| wN U29 sz29 rfl ?_
 refine cS (fun n => 30 + 1000 * n) (hS) F25 ?_
 refine wA rfl<| zab<| zaa<| tx<| wM rfl<| wP za3 rfl<| zab<| zaf<| zag rfl<| zae<| zaa<| tx<| wN U24 sz24 rfl ?_
 refine cS (fun _ => 40) (hK) F26 ?_
 refine wG (zaF 12 zr24 rfl) rfl<| wG (zar (Y := .agg _) sz24 rfl (by first | exact Nat.eq_of_beq_eq_true rfl | (simp only [AV.cells, List.length_map]; first | assumption | omega)) (Nat.eq_of_beq_eq_true rfl)) rfl ?_
 refine zab ?_
 refine zaf (zbl (zaJ id [(1, .p (.v (.string pt))), (3, .ref 3 0), (5, .ref 5 0), (6, .ref 6 0), (9, .fn 23 []), (12, .ref 12 0)] [(3, .box 24 (cfC key port l.length L)), (5, .box 29 [.p (.v (.int .i64 5)), .p (.v (.string t)), .p (.v (.int .i64 n)), .p (.v (.int .u32 a)), .p (.v (.int .i64 b))]), (6, .box 24 [.p (.v (.string ⟨#[]⟩)), .p (.v (.int .i64 0)), .p (.v (.slice none 0 0))]), (12, .box 24 [.p (.v (.string key)), .p (.v (.int .i64 port)), .row 40]), (40, .row 60 5 l.length L)] (by repeat (first | exact trivial | refine ⟨⟨rfl, rfl⟩, ?_⟩)) (by repeat (first | exact trivial | refine ⟨⟨rfl, rfl⟩, ?_⟩)) rfl) ?_)
 refine zaa<| tx<| wN U24 sz24 rfl ?_
 refine wF zaD rfl<| wL U9 rfl<| yV (fun n => 44 + 1000 * n) (hA) F27 ?_
 refine wA rfl<| zab<| zaa<| tx<| wM rfl<| wF zaH rfl<| wL U22 rfl<| wG (zbd U22) rfl<| wP (zbc (c := decide (T < l.length)) (by first | (simp; done) | (simp; omega))) rfl ?_
 refine wA rfl<| zab<| zaa<| zaa<| tx<| wF zav rfl<| wL U3 rfl<| zab<| zak<| zaa<| tx<| wP zaz rfl<| wA rfl<| zab<| zaf<| zag rfl<| zaa<| tx<| wP zaz rfl<| wA rfl<| zab<| zaf<| zag rfl<| zaa ?_
 refine tx<| wP zaz rfl<| wA rfl<| zab<| zaf<| zag rfl<| zaa<| tx<| wP zaz rfl<| wA rfl<| zab<| zaf<| zag rfl<| zae<| zaa<| tx<| wN U24 sz24 rfl ?_
 refine wM rfl<| yV (fun n => 115 + 1000 * n) (hA2) F27 ?_
 refine wA rfl<| zab<| zaa<| zaa<| tx<| wM rfl<| wP (zaE (c := false) (by simp [h0])) rfl ?_
 refine wM rfl<| wM rfl<| wF zaH rfl<| wL U22 rfl<| wG (zbd U22) rfl<| wP (zbx (c := false) (by simp; omega)) rfl ?_
 refine wP zaj rfl<| zab<| zaf<| zag rfl<| zae<| zaa<| zaa<| tx<| wF zav rfl<| wL U3 rfl<| zab<| zak<| zaa<| tx<| wP zaZ rfl<| wA rfl<| zab<| zaf<| zax rfl<| zaa<| zaB 4 qK<| wG (zci 134 U22 sz60) rfl<| wF zaH rfl<| wL U22 rfl ?_
 refine wM rfl<| wG (zcU (L := none) (H := (some (_, _))) U22 sz60 rfl ⟨qO, rfl⟩ qO qO (show Int.toNat (U : Int) - 0 = U by omega) rfl) rfl ?_
 refine zah (zbe 139 U22 eo60 (zeD (by omega) rfl) (by simp only [maxLen]; omega) (by omega) (show 0 + U = U by omega) (show [] ++ (L.drop (0 * 5)).take (U * 5) = L.take (U * 5) by simp)) rfl rfl ⟨rfl, rfl, rfl, trivial⟩ ?_
 refine wF zaH rfl<| wL U22 rfl<| wM rfl<| wP (za5 (show IntKind.i64.wrap ((U : Int) + 1) = ((U + 1 : Nat) : Int) by rw [IntWalk.i64_in _ (by omega)]; omega)) rfl ?_
 refine wG (zcU (L := (some (_, _))) (H := none) U22 sz60 ⟨by omega, rfl⟩ rfl (by omega) (by omega) (show l.length - Int.toNat ((U + 1 : Nat) : Int) = l.length - (U + 1) by omega) (show Int.toNat ((U + 1 : Nat) : Int) * 5 = (U + 1) * 5 by rw [Int.toNat_natCast])) rfl ?_
 refine zah (zbe 145 U22 eo60 (zeD (by omega) rfl) (by simp only [maxLen]; omega) (by omega) (show U + (l.length - (U + 1)) = l.length - 1 by omega) hap) rfl rfl ⟨rfl, rfl, rfl, trivial⟩ ?_
 refine wF zaH rfl<| wG (zbX (Y := .row _) sz22 rfl (by first | exact Nat.eq_of_beq_eq_true rfl | (simp only [AV.cells, List.length_map]; first | assumption | omega)) (by first | exact Nat.le_of_ble_eq_true rfl | omega | (simp only [AV.cells, List.length_map]; omega)) (by first | (simp only [setR, AV.cells, List.take_succ_cons, List.take_zero, List.drop_succ_cons, List.drop_zero, List.drop_nil, List.take_nil, List.nil_append, List.cons_append, List.append_nil, List.length_cons, List.length_nil, Nat.reduceAdd, Nat.zero_add, Nat.add_zero]; rfl) | rfl)) rfl ?_
 refine zab ⟨qK, ?_⟩
 refine zaa<| tx<| wN U24 sz24 rfl ?_
 refine wG (zar (Y := .agg _) sz24 rfl (by first | exact Nat.eq_of_beq_eq_true rfl | (simp only [AV.cells, List.length_map]; first | assumption | omega)) (Nat.eq_of_beq_eq_true rfl)) rfl ?_
 refine wA rfl<| wA rfl<| zab<| zai<| zaU<| zau ?_
 refine fT (fun _ => 145) (.cellN _ _ _ _ _ _ _ _ _ rfl rfl U24 rfl sz24 (by first | assumption | kernel_rfl) (.tmp _ _ _ _ rfl (.tmp _ _ _ _ rfl .nil))) ?_ ?_
 ·exact rfl
 ·exact ⟨⟨rfl, rfl⟩, trivial⟩
set_option maxHeartbeats 8000000 in
theorem ref6_s (key : ByteArray) (port : Int) (l : List PE) (ok : CF.OK ⟨key, port, l⟩) (pt : ByteArray) (t : ByteArray) (n a b : Int) (sok : SE.OK ⟨6, t, n, a, b⟩) (hc0 : cfE ⟨key, port, l⟩ = 0) (hs0 : seE ⟨6, t, n, a, b⟩ = 0) (h0 : pt ≠ ⟨#[]⟩) (h : peN pt l < l.length) : Fn prog 8 [.agg (CF.cells ⟨key, port, l⟩), .p (.v (.string pt)), .agg (SE.cells ⟨6, t, n, a, b⟩)] (.tup [.agg [.p (.v (.string key)), .p (.v (.int .i64 port)), .row 0], .p (.v (.string pt)), .p (.v (.int .i64 0))]) [(0, .row 60 5 l.length ((l.set (peN pt l) { l[peN pt l] with sh := t }).flatMap PE.pv))] := by
 have hC := zbk ⟨key, port, l⟩ ok
 rw [hc0] at hC
 have hS := zbg ⟨6, t, n, a, b⟩ sok
 rw [hs0] at hS
 have hK := zbp ⟨key, port, l⟩ ok
 have hA := za6 ⟨key, port, l⟩ ok t
 have hA2 := za6 ⟨key, port, l⟩ ok pt
 have hn := ok.len
 dsimp only at hn
 change Fn prog _ [.agg (cfC key port l.length (l.flatMap PE.pv))] _ _ at hC hK
 change Fn prog _ [.agg (cfC key port l.length (l.flatMap PE.pv)), _] (.p (.v (.int .i64 (peN t l : Nat)))) _ at hA
 change Fn prog _ [.agg (cfC key port l.length (l.flatMap PE.pv)), _] (.p (.v (.int .i64 (peN pt l : Nat)))) _ at hA2
 change Fn prog _ [.agg [.p (.v (.int .i64 6)), .p (.v (.string t)), .p (.v (.int .i64 n)), .p (.v (.int .u32 a)), .p (.v (.int .i64 b))]] _ _ at hS
 show Fn prog _ [.agg (cfC key port l.length (l.flatMap PE.pv)), _, .agg [.p (.v (.int .i64 6)), .p (.v (.string t)), .p (.v (.int .i64 n)), .p (.v (.int .u32 a)), .p (.v (.int .i64 b))]] _ _
 have hL0 : (l.flatMap PE.pv).length = l.length * 5 := zaW (f := PE.pv) (k := 5) (fun _ => rfl) l
 have hset := zeZ h 1 (.v (.string t)) { l[peN pt l] with sh := t } rfl qO
 generalize (l.set (peN pt l) { l[peN pt l] with sh := t }).flatMap PE.pv = L2 at *
 generalize peN pt l = U at *
 clear ok sok hc0 hs0
 generalize l.flatMap PE.pv = L at *
 generalize peN t l = T at *
 refine zaw func8 rfl (qE rfl) fun w0 A => zaa<| tx<| wG (zaK (X := .agg _) 3 rfl) rfl<| wG (zaK (X := .agg _) 5 rfl) rfl<| wG (zaF 6 zr24 rfl) rfl<| wA rfl<| wA rfl<| zab<| zaa<| tx<| wP (zas (r := .fn _ _)) rfl<| zab<| zaa<| zaa<| tx<| wN U24 sz24 rfl ?_
 refine cS (fun n => 20 + 1000 * n) (hC) F24 ?_
 refine wA rfl<| zab<| zaa<| tx<| wM rfl<| wP za3 rfl<| zab<| zaf<| zag rfl<| zae<| zaa<| zaa<| tx<| wN U29 sz29 rfl ?_
 refine cS (fun n => 30 + 1000 * n) (hS) F25 ?_
 refine wA rfl<| zab<| zaa<| tx<| wM rfl<| wP za3 rfl<| zab<| zaf<| zag rfl<| zae<| zaa<| tx<| wN U24 sz24 rfl ?_
 refine cS (fun _ => 40) (hK) F26 ?_
 refine wG (zaF 12 zr24 rfl) rfl<| wG (zar (Y := .agg _) sz24 rfl (by first | exact Nat.eq_of_beq_eq_true rfl | (simp only [AV.cells, List.length_map]; first | assumption | omega)) (Nat.eq_of_beq_eq_true rfl)) rfl ?_
 refine zab ?_
 refine zaf (zbl (zaJ id [(1, .p (.v (.string pt))), (3, .ref 3 0), (5, .ref 5 0), (6, .ref 6 0), (9, .fn 23 []), (12, .ref 12 0)] [(3, .box 24 (cfC key port l.length L)), (5, .box 29 [.p (.v (.int .i64 6)), .p (.v (.string t)), .p (.v (.int .i64 n)), .p (.v (.int .u32 a)), .p (.v (.int .i64 b))]), (6, .box 24 [.p (.v (.string ⟨#[]⟩)), .p (.v (.int .i64 0)), .p (.v (.slice none 0 0))]), (12, .box 24 [.p (.v (.string key)), .p (.v (.int .i64 port)), .row 40]), (40, .row 60 5 l.length L)] (by repeat (first | exact trivial | refine ⟨⟨rfl, rfl⟩, ?_⟩)) (by repeat (first | exact trivial | refine ⟨⟨rfl, rfl⟩, ?_⟩)) rfl) ?_)
 refine zaa<| tx<| wN U24 sz24 rfl ?_
 refine wF zaD rfl<| wL U9 rfl<| yV (fun n => 44 + 1000 * n) (hA) F27 ?_
 refine wA rfl<| zab<| zaa<| tx<| wM rfl<| wF zaH rfl<| wL U22 rfl<| wG (zbd U22) rfl<| wP (zbc (c := decide (T < l.length)) (by first | (simp; done) | (simp; omega))) rfl ?_
 refine wA rfl<| zab<| zaa<| zaa<| tx<| wF zav rfl<| wL U3 rfl<| zab<| zak<| zaa<| tx<| wP zaz rfl<| wA rfl<| zab<| zaf<| zag rfl<| zaa<| tx<| wP zaz rfl<| wA rfl<| zab<| zaf<| zag rfl<| zaa ?_
 refine tx<| wP zaz rfl<| wA rfl<| zab<| zaf<| zag rfl<| zaa<| tx<| wP zaz rfl<| wA rfl<| zab<| zaf<| zag rfl<| zae<| zaa<| tx<| wN U24 sz24 rfl ?_
 refine wM rfl<| yV (fun n => 115 + 1000 * n) (hA2) F27 ?_
 refine wA rfl<| zab<| zaa<| zaa<| tx<| wM rfl<| wP (zaE (c := false) (by simp [h0])) rfl ?_
 refine wM rfl<| wM rfl<| wF zaH rfl<| wL U22 rfl<| wG (zbd U22) rfl<| wP (zbx (c := false) (by simp; omega)) rfl ?_
 refine wP zaj rfl<| zab<| zaf<| zag rfl<| zae<| zaa<| zaa<| tx<| wF zav rfl<| wL U3 rfl<| zab<| zak<| zaa<| tx<| wP zaz rfl<| wA rfl<| zab<| zaf<| zag rfl<| zaa<| tx<| wP zaZ rfl<| wA rfl<| zab ?_
 refine zaf<| zax rfl ?_
 skip
 refine tx<| wF zaH rfl<| wL U22 rfl<| wM rfl<| wF zaD rfl<| wL U9 rfl<| wG (zaG U22 sz60 (by omega) (by omega) (by first | (simp only [Int.toNat_natCast, Nat.mul_one, Nat.zero_add]; rfl) | rfl)) rfl ?_
 refine wF zcv rfl<| wG (zb4 (Y := .p (.v (.string t))) (ys := [.v (.string t)]) sz9 rfl rfl rfl qO hset) rfl<| zab<| zaa<| tx<| wN U24 sz24 rfl ?_
 refine wM rfl<| wG (zar (Y := .agg _) sz24 rfl (by first | exact Nat.eq_of_beq_eq_true rfl | (simp only [AV.cells, List.length_map]; first | assumption | omega)) (Nat.eq_of_beq_eq_true rfl)) rfl ?_
 refine wA rfl<| wA rfl<| zab<| zai ?_
 refine fT (fun _ => 40) (.cellN _ _ _ _ _ _ _ _ _ rfl rfl U24 rfl sz24 (by first | assumption | kernel_rfl) (.tmp _ _ _ _ rfl (.tmp _ _ _ _ rfl .nil))) ?_ ?_
 ·exact rfl
 ·exact ⟨⟨rfl, rfl⟩, trivial⟩
set_option maxHeartbeats 8000000 in
theorem ref7_s (key : ByteArray) (port : Int) (l : List PE) (ok : CF.OK ⟨key, port, l⟩) (pt : ByteArray) (t : ByteArray) (n a b : Int) (sok : SE.OK ⟨7, t, n, a, b⟩) (hc0 : cfE ⟨key, port, l⟩ = 0) (hs0 : seE ⟨7, t, n, a, b⟩ = 0) (h0 : pt ≠ ⟨#[]⟩) (h : peN pt l < l.length) : Fn prog 8 [.agg (CF.cells ⟨key, port, l⟩), .p (.v (.string pt)), .agg (SE.cells ⟨7, t, n, a, b⟩)] (.tup [.agg [.p (.v (.string key)), .p (.v (.int .i64 port)), .row 0], .p (.v (.string pt)), .p (.v (.int .i64 0))]) [(0, .row 60 5 l.length ((l.set (peN pt l) { l[peN pt l] with ep := t }).flatMap PE.pv))] := by
 have hC := zbk ⟨key, port, l⟩ ok
 rw [hc0] at hC
 have hS := zbg ⟨7, t, n, a, b⟩ sok
 rw [hs0] at hS
 have hK := zbp ⟨key, port, l⟩ ok
 have hA := za6 ⟨key, port, l⟩ ok t
 have hA2 := za6 ⟨key, port, l⟩ ok pt
 have hn := ok.len
 dsimp only at hn
 change Fn prog _ [.agg (cfC key port l.length (l.flatMap PE.pv))] _ _ at hC hK
 change Fn prog _ [.agg (cfC key port l.length (l.flatMap PE.pv)), _] (.p (.v (.int .i64 (peN t l : Nat)))) _ at hA
 change Fn prog _ [.agg (cfC key port l.length (l.flatMap PE.pv)), _] (.p (.v (.int .i64 (peN pt l : Nat)))) _ at hA2
 change Fn prog _ [.agg [.p (.v (.int .i64 7)), .p (.v (.string t)), .p (.v (.int .i64 n)), .p (.v (.int .u32 a)), .p (.v (.int .i64 b))]] _ _ at hS
 show Fn prog _ [.agg (cfC key port l.length (l.flatMap PE.pv)), _, .agg [.p (.v (.int .i64 7)), .p (.v (.string t)), .p (.v (.int .i64 n)), .p (.v (.int .u32 a)), .p (.v (.int .i64 b))]] _ _
 have hL0 : (l.flatMap PE.pv).length = l.length * 5 := zaW (f := PE.pv) (k := 5) (fun _ => rfl) l
 have hset := zeZ h 2 (.v (.string t)) { l[peN pt l] with ep := t } rfl qO
 generalize (l.set (peN pt l) { l[peN pt l] with ep := t }).flatMap PE.pv = L2 at *
 generalize peN pt l = U at *
 clear ok sok hc0 hs0
 generalize l.flatMap PE.pv = L at *
 generalize peN t l = T at *
 refine zaw func8 rfl (qE rfl) fun w0 A => zaa<| tx<| wG (zaK (X := .agg _) 3 rfl) rfl<| wG (zaK (X := .agg _) 5 rfl) rfl<| wG (zaF 6 zr24 rfl) rfl<| wA rfl<| wA rfl<| zab<| zaa<| tx<| wP (zas (r := .fn _ _)) rfl<| zab<| zaa<| zaa<| tx<| wN U24 sz24 rfl ?_
 refine cS (fun n => 20 + 1000 * n) (hC) F24 ?_
 refine wA rfl<| zab<| zaa<| tx<| wM rfl<| wP za3 rfl<| zab<| zaf<| zag rfl<| zae<| zaa<| zaa<| tx<| wN U29 sz29 rfl ?_
 refine cS (fun n => 30 + 1000 * n) (hS) F25 ?_
 refine wA rfl<| zab<| zaa<| tx<| wM rfl<| wP za3 rfl<| zab<| zaf<| zag rfl<| zae<| zaa<| tx<| wN U24 sz24 rfl ?_
 refine cS (fun _ => 40) (hK) F26 ?_
 refine wG (zaF 12 zr24 rfl) rfl<| wG (zar (Y := .agg _) sz24 rfl (by first | exact Nat.eq_of_beq_eq_true rfl | (simp only [AV.cells, List.length_map]; first | assumption | omega)) (Nat.eq_of_beq_eq_true rfl)) rfl ?_
 refine zab ?_
 refine zaf (zbl (zaJ id [(1, .p (.v (.string pt))), (3, .ref 3 0), (5, .ref 5 0), (6, .ref 6 0), (9, .fn 23 []), (12, .ref 12 0)] [(3, .box 24 (cfC key port l.length L)), (5, .box 29 [.p (.v (.int .i64 7)), .p (.v (.string t)), .p (.v (.int .i64 n)), .p (.v (.int .u32 a)), .p (.v (.int .i64 b))]), (6, .box 24 [.p (.v (.string ⟨#[]⟩)), .p (.v (.int .i64 0)), .p (.v (.slice none 0 0))]), (12, .box 24 [.p (.v (.string key)), .p (.v (.int .i64 port)), .row 40]), (40, .row 60 5 l.length L)] (by repeat (first | exact trivial | refine ⟨⟨rfl, rfl⟩, ?_⟩)) (by repeat (first | exact trivial | refine ⟨⟨rfl, rfl⟩, ?_⟩)) rfl) ?_)
 refine zaa<| tx<| wN U24 sz24 rfl ?_
 refine wF zaD rfl<| wL U9 rfl<| yV (fun n => 44 + 1000 * n) (hA) F27 ?_
 refine wA rfl<| zab<| zaa<| tx<| wM rfl<| wF zaH rfl<| wL U22 rfl<| wG (zbd U22) rfl<| wP (zbc (c := decide (T < l.length)) (by first | (simp; done) | (simp; omega))) rfl ?_
 refine wA rfl<| zab<| zaa<| zaa<| tx<| wF zav rfl<| wL U3 rfl<| zab<| zak<| zaa<| tx<| wP zaz rfl<| wA rfl<| zab<| zaf<| zag rfl<| zaa<| tx<| wP zaz rfl<| wA rfl<| zab<| zaf<| zag rfl<| zaa ?_
 refine tx<| wP zaz rfl<| wA rfl<| zab<| zaf<| zag rfl<| zaa<| tx<| wP zaz rfl<| wA rfl<| zab<| zaf<| zag rfl<| zae<| zaa<| tx<| wN U24 sz24 rfl ?_
 refine wM rfl<| yV (fun n => 115 + 1000 * n) (hA2) F27 ?_
 refine wA rfl<| zab<| zaa<| zaa<| tx<| wM rfl<| wP (zaE (c := false) (by simp [h0])) rfl ?_
 refine wM rfl<| wM rfl<| wF zaH rfl<| wL U22 rfl<| wG (zbd U22) rfl<| wP (zbx (c := false) (by simp; omega)) rfl ?_
 refine wP zaj rfl<| zab<| zaf<| zag rfl<| zae<| zaa<| zaa<| tx<| wF zav rfl<| wL U3 rfl<| zab<| zak<| zaa<| tx<| wP zaz rfl<| wA rfl<| zab<| zaf<| zag rfl<| zaa<| tx<| wP zaz rfl<| wA rfl<| zab ?_
 refine zaf<| zag rfl<| zaa<| tx<| wP zaZ rfl<| wA rfl<| zab<| zaf<| zax rfl ?_
 skip
 refine tx<| wF zaH rfl<| wL U22 rfl<| wM rfl<| wF zaD rfl<| wL U9 rfl<| wG (zaG U22 sz60 (by omega) (by omega) (by first | (simp only [Int.toNat_natCast, Nat.mul_one, Nat.zero_add]; rfl) | rfl)) rfl ?_
 refine wF zdP rfl<| wG (zb4 (Y := .p (.v (.string t))) (ys := [.v (.string t)]) sz9 rfl rfl rfl qO hset) rfl<| zab<| zaa<| tx<| wN U24 sz24 rfl ?_
 refine wM rfl<| wG (zar (Y := .agg _) sz24 rfl (by first | exact Nat.eq_of_beq_eq_true rfl | (simp only [AV.cells, List.length_map]; first | assumption | omega)) (Nat.eq_of_beq_eq_true rfl)) rfl ?_
 refine wA rfl<| wA rfl<| zab<| zai ?_
 refine fT (fun _ => 40) (.cellN _ _ _ _ _ _ _ _ _ rfl rfl U24 rfl sz24 (by first | assumption | kernel_rfl) (.tmp _ _ _ _ rfl (.tmp _ _ _ _ rfl .nil))) ?_ ?_
 ·exact rfl
 ·exact ⟨⟨rfl, rfl⟩, trivial⟩
set_option maxHeartbeats 8000000 in
theorem ref8_s (key : ByteArray) (port : Int) (l : List PE) (ok : CF.OK ⟨key, port, l⟩) (pt : ByteArray) (t : ByteArray) (n a b : Int) (sok : SE.OK ⟨8, t, n, a, b⟩) (hc0 : cfE ⟨key, port, l⟩ = 0) (hs0 : seE ⟨8, t, n, a, b⟩ = 0) (h0 : pt ≠ ⟨#[]⟩) (h : peN pt l < l.length) : Fn prog 8 [.agg (CF.cells ⟨key, port, l⟩), .p (.v (.string pt)), .agg (SE.cells ⟨8, t, n, a, b⟩)] (.tup [.agg [.p (.v (.string key)), .p (.v (.int .i64 port)), .row 0], .p (.v (.string pt)), .p (.v (.int .i64 0))]) [(0, .row 60 5 l.length ((l.set (peN pt l) { l[peN pt l] with al := n }).flatMap PE.pv))] := by
 have hC := zbk ⟨key, port, l⟩ ok
 rw [hc0] at hC
 have hS := zbg ⟨8, t, n, a, b⟩ sok
 rw [hs0] at hS
 have hK := zbp ⟨key, port, l⟩ ok
 have hA := za6 ⟨key, port, l⟩ ok t
 have hA2 := za6 ⟨key, port, l⟩ ok pt
 have hn := ok.len
 dsimp only at hn
 change Fn prog _ [.agg (cfC key port l.length (l.flatMap PE.pv))] _ _ at hC hK
 change Fn prog _ [.agg (cfC key port l.length (l.flatMap PE.pv)), _] (.p (.v (.int .i64 (peN t l : Nat)))) _ at hA
 change Fn prog _ [.agg (cfC key port l.length (l.flatMap PE.pv)), _] (.p (.v (.int .i64 (peN pt l : Nat)))) _ at hA2
 change Fn prog _ [.agg [.p (.v (.int .i64 8)), .p (.v (.string t)), .p (.v (.int .i64 n)), .p (.v (.int .u32 a)), .p (.v (.int .i64 b))]] _ _ at hS
 show Fn prog _ [.agg (cfC key port l.length (l.flatMap PE.pv)), _, .agg [.p (.v (.int .i64 8)), .p (.v (.string t)), .p (.v (.int .i64 n)), .p (.v (.int .u32 a)), .p (.v (.int .i64 b))]] _ _
 have hL0 : (l.flatMap PE.pv).length = l.length * 5 := zaW (f := PE.pv) (k := 5) (fun _ => rfl) l
 have hset := zeZ h 3 (.v (.int .i64 n)) { l[peN pt l] with al := n } rfl qO
 generalize (l.set (peN pt l) { l[peN pt l] with al := n }).flatMap PE.pv = L2 at *
 generalize peN pt l = U at *
 clear ok sok hc0 hs0
 generalize l.flatMap PE.pv = L at *
 generalize peN t l = T at *
 refine zaw func8 rfl (qE rfl) fun w0 A => zaa<| tx<| wG (zaK (X := .agg _) 3 rfl) rfl<| wG (zaK (X := .agg _) 5 rfl) rfl<| wG (zaF 6 zr24 rfl) rfl<| wA rfl<| wA rfl<| zab<| zaa<| tx<| wP (zas (r := .fn _ _)) rfl<| zab<| zaa<| zaa<| tx<| wN U24 sz24 rfl ?_
 refine cS (fun n => 20 + 1000 * n) (hC) F24 ?_
 refine wA rfl<| zab<| zaa<| tx<| wM rfl<| wP za3 rfl<| zab<| zaf<| zag rfl<| zae<| zaa<| zaa<| tx<| wN U29 sz29 rfl ?_
 refine cS (fun n => 30 + 1000 * n) (hS) F25 ?_
 refine wA rfl<| zab<| zaa<| tx<| wM rfl<| wP za3 rfl<| zab<| zaf<| zag rfl<| zae<| zaa<| tx<| wN U24 sz24 rfl ?_
 refine cS (fun _ => 40) (hK) F26 ?_
 refine wG (zaF 12 zr24 rfl) rfl<| wG (zar (Y := .agg _) sz24 rfl (by first | exact Nat.eq_of_beq_eq_true rfl | (simp only [AV.cells, List.length_map]; first | assumption | omega)) (Nat.eq_of_beq_eq_true rfl)) rfl ?_
 refine zab ?_
 refine zaf (zbl (zaJ id [(1, .p (.v (.string pt))), (3, .ref 3 0), (5, .ref 5 0), (6, .ref 6 0), (9, .fn 23 []), (12, .ref 12 0)] [(3, .box 24 (cfC key port l.length L)), (5, .box 29 [.p (.v (.int .i64 8)), .p (.v (.string t)), .p (.v (.int .i64 n)), .p (.v (.int .u32 a)), .p (.v (.int .i64 b))]), (6, .box 24 [.p (.v (.string ⟨#[]⟩)), .p (.v (.int .i64 0)), .p (.v (.slice none 0 0))]), (12, .box 24 [.p (.v (.string key)), .p (.v (.int .i64 port)), .row 40]), (40, .row 60 5 l.length L)] (by repeat (first | exact trivial | refine ⟨⟨rfl, rfl⟩, ?_⟩)) (by repeat (first | exact trivial | refine ⟨⟨rfl, rfl⟩, ?_⟩)) rfl) ?_)
 refine zaa<| tx<| wN U24 sz24 rfl ?_
 refine wF zaD rfl<| wL U9 rfl<| yV (fun n => 44 + 1000 * n) (hA) F27 ?_
 refine wA rfl<| zab<| zaa<| tx<| wM rfl<| wF zaH rfl<| wL U22 rfl<| wG (zbd U22) rfl<| wP (zbc (c := decide (T < l.length)) (by first | (simp; done) | (simp; omega))) rfl ?_
 refine wA rfl<| zab<| zaa<| zaa<| tx<| wF zav rfl<| wL U3 rfl<| zab<| zak<| zaa<| tx<| wP zaz rfl<| wA rfl<| zab<| zaf<| zag rfl<| zaa<| tx<| wP zaz rfl<| wA rfl<| zab<| zaf<| zag rfl<| zaa ?_
 refine tx<| wP zaz rfl<| wA rfl<| zab<| zaf<| zag rfl<| zaa<| tx<| wP zaz rfl<| wA rfl<| zab<| zaf<| zag rfl<| zae<| zaa<| tx<| wN U24 sz24 rfl ?_
 refine wM rfl<| yV (fun n => 115 + 1000 * n) (hA2) F27 ?_
 refine wA rfl<| zab<| zaa<| zaa<| tx<| wM rfl<| wP (zaE (c := false) (by simp [h0])) rfl ?_
 refine wM rfl<| wM rfl<| wF zaH rfl<| wL U22 rfl<| wG (zbd U22) rfl<| wP (zbx (c := false) (by simp; omega)) rfl ?_
 refine wP zaj rfl<| zab<| zaf<| zag rfl<| zae<| zaa<| zaa<| tx<| wF zav rfl<| wL U3 rfl<| zab<| zak<| zaa<| tx<| wP zaz rfl<| wA rfl<| zab<| zaf<| zag rfl<| zaa<| tx<| wP zaz rfl<| wA rfl<| zab ?_
 refine zaf<| zag rfl<| zaa<| tx<| wP zaz rfl<| wA rfl<| zab<| zaf<| zag rfl<| zaa<| tx<| wP zaZ rfl<| wA rfl<| zab<| zaf<| zax rfl ?_
 skip
 refine tx<| wF zaH rfl<| wL U22 rfl<| wM rfl<| wF zaM rfl<| wL U3 rfl<| wG (zaG U22 sz60 (by omega) (by omega) (by first | (simp only [Int.toNat_natCast, Nat.mul_one, Nat.zero_add]; rfl) | rfl)) rfl ?_
 refine wF ze6 rfl<| wG (zb4 (Y := .p (.v (.int .i64 n))) (ys := [.v (.int .i64 n)]) sz3 rfl rfl rfl qO hset) rfl<| zab<| zaa<| tx<| wN U24 sz24 rfl ?_
 refine wM rfl<| wG (zar (Y := .agg _) sz24 rfl (by first | exact Nat.eq_of_beq_eq_true rfl | (simp only [AV.cells, List.length_map]; first | assumption | omega)) (Nat.eq_of_beq_eq_true rfl)) rfl ?_
 refine wA rfl<| wA rfl<| zab<| zai ?_
 refine fT (fun _ => 40) (.cellN _ _ _ _ _ _ _ _ _ rfl rfl U24 rfl sz24 (by first | assumption | kernel_rfl) (.tmp _ _ _ _ rfl (.tmp _ _ _ _ rfl .nil))) ?_ ?_
 ·exact rfl
 ·exact ⟨⟨rfl, rfl⟩, trivial⟩
set_option maxHeartbeats 8000000 in
theorem ref9_s (key : ByteArray) (port : Int) (l : List PE) (ok : CF.OK ⟨key, port, l⟩) (pt : ByteArray) (t : ByteArray) (n a b : Int) (sok : SE.OK ⟨9, t, n, a, b⟩) (hc0 : cfE ⟨key, port, l⟩ = 0) (hs0 : seE ⟨9, t, n, a, b⟩ = 0) (h0 : pt ≠ ⟨#[]⟩) (h : peN pt l < l.length) : Fn prog 8 [.agg (CF.cells ⟨key, port, l⟩), .p (.v (.string pt)), .agg (SE.cells ⟨9, t, n, a, b⟩)] (.tup [.agg [.p (.v (.string key)), .p (.v (.int .i64 port)), .row 0], .p (.v (.string pt)), .p (.v (.int .i64 0))]) [(0, .row 60 5 l.length ((l.set (peN pt l) { l[peN pt l] with nets := [] }).flatMap PE.pv))] := by
 have hC := zbk ⟨key, port, l⟩ ok
 rw [hc0] at hC
 have hS := zbg ⟨9, t, n, a, b⟩ sok
 rw [hs0] at hS
 have hK := zbp ⟨key, port, l⟩ ok
 have hA := za6 ⟨key, port, l⟩ ok t
 have hA2 := za6 ⟨key, port, l⟩ ok pt
 have hn := ok.len
 dsimp only at hn
 change Fn prog _ [.agg (cfC key port l.length (l.flatMap PE.pv))] _ _ at hC hK
 change Fn prog _ [.agg (cfC key port l.length (l.flatMap PE.pv)), _] (.p (.v (.int .i64 (peN t l : Nat)))) _ at hA
 change Fn prog _ [.agg (cfC key port l.length (l.flatMap PE.pv)), _] (.p (.v (.int .i64 (peN pt l : Nat)))) _ at hA2
 change Fn prog _ [.agg [.p (.v (.int .i64 9)), .p (.v (.string t)), .p (.v (.int .i64 n)), .p (.v (.int .u32 a)), .p (.v (.int .i64 b))]] _ _ at hS
 show Fn prog _ [.agg (cfC key port l.length (l.flatMap PE.pv)), _, .agg [.p (.v (.int .i64 9)), .p (.v (.string t)), .p (.v (.int .i64 n)), .p (.v (.int .u32 a)), .p (.v (.int .i64 b))]] _ _
 have hL0 : (l.flatMap PE.pv).length = l.length * 5 := zaW (f := PE.pv) (k := 5) (fun _ => rfl) l
 have hset := zeZ h 4 (.sl 0 2 []) { l[peN pt l] with nets := [] } rfl qO
 generalize (l.set (peN pt l) { l[peN pt l] with nets := [] }).flatMap PE.pv = L2 at *
 generalize peN pt l = U at *
 clear ok sok hc0 hs0
 generalize l.flatMap PE.pv = L at *
 generalize peN t l = T at *
 refine zaw func8 rfl (qE rfl) fun w0 A => zaa<| tx<| wG (zaK (X := .agg _) 3 rfl) rfl<| wG (zaK (X := .agg _) 5 rfl) rfl<| wG (zaF 6 zr24 rfl) rfl<| wA rfl<| wA rfl<| zab<| zaa<| tx<| wP (zas (r := .fn _ _)) rfl<| zab<| zaa<| zaa<| tx<| wN U24 sz24 rfl ?_
 refine cS (fun n => 20 + 1000 * n) (hC) F24 ?_
 refine wA rfl<| zab<| zaa<| tx<| wM rfl<| wP za3 rfl<| zab<| zaf<| zag rfl<| zae<| zaa<| zaa<| tx<| wN U29 sz29 rfl ?_
 refine cS (fun n => 30 + 1000 * n) (hS) F25 ?_
 refine wA rfl<| zab<| zaa<| tx<| wM rfl<| wP za3 rfl<| zab<| zaf<| zag rfl<| zae<| zaa<| tx<| wN U24 sz24 rfl ?_
 refine cS (fun _ => 40) (hK) F26 ?_
 refine wG (zaF 12 zr24 rfl) rfl<| wG (zar (Y := .agg _) sz24 rfl (by first | exact Nat.eq_of_beq_eq_true rfl | (simp only [AV.cells, List.length_map]; first | assumption | omega)) (Nat.eq_of_beq_eq_true rfl)) rfl ?_
 refine zab ?_
 refine zaf (zbl (zaJ id [(1, .p (.v (.string pt))), (3, .ref 3 0), (5, .ref 5 0), (6, .ref 6 0), (9, .fn 23 []), (12, .ref 12 0)] [(3, .box 24 (cfC key port l.length L)), (5, .box 29 [.p (.v (.int .i64 9)), .p (.v (.string t)), .p (.v (.int .i64 n)), .p (.v (.int .u32 a)), .p (.v (.int .i64 b))]), (6, .box 24 [.p (.v (.string ⟨#[]⟩)), .p (.v (.int .i64 0)), .p (.v (.slice none 0 0))]), (12, .box 24 [.p (.v (.string key)), .p (.v (.int .i64 port)), .row 40]), (40, .row 60 5 l.length L)] (by repeat (first | exact trivial | refine ⟨⟨rfl, rfl⟩, ?_⟩)) (by repeat (first | exact trivial | refine ⟨⟨rfl, rfl⟩, ?_⟩)) rfl) ?_)
 refine zaa<| tx<| wN U24 sz24 rfl ?_
 refine wF zaD rfl<| wL U9 rfl<| yV (fun n => 44 + 1000 * n) (hA) F27 ?_
 refine wA rfl<| zab<| zaa<| tx<| wM rfl<| wF zaH rfl<| wL U22 rfl<| wG (zbd U22) rfl<| wP (zbc (c := decide (T < l.length)) (by first | (simp; done) | (simp; omega))) rfl ?_
 refine wA rfl<| zab<| zaa<| zaa<| tx<| wF zav rfl<| wL U3 rfl<| zab<| zak<| zaa<| tx<| wP zaz rfl<| wA rfl<| zab<| zaf<| zag rfl<| zaa<| tx<| wP zaz rfl<| wA rfl<| zab<| zaf<| zag rfl<| zaa ?_
 refine tx<| wP zaz rfl<| wA rfl<| zab<| zaf<| zag rfl<| zaa<| tx<| wP zaz rfl<| wA rfl<| zab<| zaf<| zag rfl<| zae<| zaa<| tx<| wN U24 sz24 rfl ?_
 refine wM rfl<| yV (fun n => 115 + 1000 * n) (hA2) F27 ?_
 refine wA rfl<| zab<| zaa<| zaa<| tx<| wM rfl<| wP (zaE (c := false) (by simp [h0])) rfl ?_
 refine wM rfl<| wM rfl<| wF zaH rfl<| wL U22 rfl<| wG (zbd U22) rfl<| wP (zbx (c := false) (by simp; omega)) rfl ?_
 refine wP zaj rfl<| zab<| zaf<| zag rfl<| zae<| zaa<| zaa<| tx<| wF zav rfl<| wL U3 rfl<| zab<| zak<| zaa<| tx<| wP zaz rfl<| wA rfl<| zab<| zaf<| zag rfl<| zaa<| tx<| wP zaz rfl<| wA rfl<| zab ?_
 refine zaf<| zag rfl<| zaa<| tx<| wP zaz rfl<| wA rfl<| zab<| zaf<| zag rfl<| zaa<| tx<| wP zaz rfl<| wA rfl<| zab<| zaf<| zag rfl<| zaa<| tx<| wP zaZ rfl<| wA rfl<| zab<| zaf<| zax rfl ?_
 skip
 refine tx<| wF zaH rfl<| wL U22 rfl<| wM rfl<| wG (zaG U22 sz60 (by omega) (by omega) (by first | (simp only [Int.toNat_natCast, Nat.mul_one, Nat.zero_add]; rfl) | rfl)) rfl ?_
 refine wF zbh rfl<| wG (zfP (nil_sl (.ref 40 (U * 5 + 4)) 2) (zb4 (Y := .p (.sl 0 2 [])) (ys := [.sl 0 2 []]) sz58 rfl rfl rfl qO hset)) rfl<| zab<| zaa<| tx<| wN U24 sz24 rfl ?_
 refine wM rfl<| wG (zar (Y := .agg _) sz24 rfl (by first | exact Nat.eq_of_beq_eq_true rfl | (simp only [AV.cells, List.length_map]; first | assumption | omega)) (Nat.eq_of_beq_eq_true rfl)) rfl ?_
 refine wA rfl<| wA rfl<| zab<| zai ?_
 refine fT (fun _ => 40) (.cellN _ _ _ _ _ _ _ _ _ rfl rfl U24 rfl sz24 (by first | assumption | kernel_rfl) (.tmp _ _ _ _ rfl (.tmp _ _ _ _ rfl .nil))) ?_ ?_
 ·exact rfl
 ·exact ⟨⟨rfl, rfl⟩, trivial⟩
end Go.Proofs.YtkdfdcodkeclmaaGreatDoor
