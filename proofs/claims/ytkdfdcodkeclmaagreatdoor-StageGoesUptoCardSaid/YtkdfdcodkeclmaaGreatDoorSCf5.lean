/- conf.Copy, conf.Find, the reference's PeerAt, the law's sameConf, over data. -/
import Derived.Test.YtkdfdcodkeclmaaGreatDoorSCf2
import Derived.Test.YtkdfdcodkeclmaaGreatDoorSBt1
import Derived.Test.YtkdfdcodkeclmaaGreatDoorSFz
namespace Go.Proofs.YtkdfdcodkeclmaaGreatDoor
open Tryz
open Go.RowKit Go.Sort
set_option linter.unusedVariables false
set_option linter.unusedSimpArgs false
set_option maxRecDepth 100000
theorem nclone_s (l : List NtP) (hn : l.length ≤ 1048576) : Fn prog 48 [.p (.sl l.length 2 (l.flatMap ntC))] (.row 0) [(0, .row 27 2 l.length (l.flatMap ntC))] := by
 have hL : (l.flatMap ntC).length = l.length * 2 := zaU (f := ntC) (k := 2) (fun _ => rfl) l
 by_cases h0 : l.length = 0
 ·obtain rfl : l = [] := List.eq_nil_of_length_eq_zero h0
  show Fn prog _ [.p (.sl 0 2 [])] (.row 0) [(0, .row 27 2 0 [])]
  refine zat func48 rfl (qE rfl) fun w0 A => zaa<| tx<| wA rfl<| zab<| zaa<| zaa<| tx<| wM rfl<| wP (a_seqX U58) rfl<| zab<| zaf<| awp_condX rfl ?_ ?_
  ·refine zaa<| tx<| wA rfl<| zab<| zaf<| zbn (zdy 2 100 27 2 rfl rfl)<| zag<| zau<| fT (fun _ => 100) (.tmp _ _ _ _ rfl .nil) ?_ ?_
   ·exact rfl
   ·exact ⟨⟨rfl, rfl⟩, trivial⟩
  ·refine zae<| zaa<| tx<| wG (zbR 5 U58 sz27) rfl<| wM rfl<| zah (zbe 7 U58 eo27 (zfx) (by simp only [maxLen]; omega) (by omega) rfl rfl) rfl rfl ⟨rfl, rfl, trivial⟩ ?_
   refine wP (zav (r := .row _)) rfl<| zab<| zag<| fT (fun _ => 7) (.tmp _ _ _ _ rfl .nil) ?_ ?_
   ·exact rfl
   ·exact ⟨⟨rfl, rfl⟩, trivial⟩
 ·generalize l.flatMap ntC = L at *
  generalize l.length = n at *
  refine zat func48 rfl (qE rfl) fun w0 A => zaa<| tx<| wA rfl<| zab<| zaa<| zaa<| tx<| wM rfl<| wP (a_seqS U58 qO) rfl<| zab<| zaf<| zap _ rfl (fun h => ?_) (fun h => ?_)
  ·cases h
  ·refine zae<| zaa<| tx<| wG (zbR 5 U58 sz27) rfl<| wM rfl<| zah (zbe 7 U58 eo27 (zfx) (by simp only [maxLen]; omega) (by omega) (show _ = n by omega) rfl) rfl rfl ⟨rfl, rfl, trivial⟩ ?_
   refine wP (zav (r := .row _)) rfl<| zab<| zag<| fT (fun _ => 7) (.tmp _ _ _ _ rfl .nil) ?_ ?_
   ·exact rfl
   ·exact ⟨⟨rfl, rfl⟩, trivial⟩
theorem pe_push (l : List PE) (i : Nat) (p : PE) (h : l[i]? = some p) : (l.take i).flatMap PE.pv ++ p.pv = (l.take (i + 1)).flatMap PE.pv := by
 obtain ⟨h1, h2⟩ := List.getElem?_eq_some_iff.1 h
 rw [List.take_succ_eq_append_getElem h1, h2, List.flatMap_append]
 simp
set_option maxHeartbeats 4000000 in
theorem zds (c : CF) (ok : c.OK) : Fn prog 21 [.agg c.cells] (.agg [.p (.v (.string c.key)), .p (.v (.int .i64 c.port)), .row 0]) [(0, .row 60 5 c.ps.length (c.ps.flatMap PE.pv))] := by
 obtain ⟨key, port, l⟩ := c
 obtain ⟨hn, ok⟩ := ok
 dsimp only at hn ok
 show Fn prog _ [.agg (cfC key port l.length (l.flatMap PE.pv))] (.agg [.p (.v (.string key)), .p (.v (.int .i64 port)), .row 0]) [(0, .row 60 5 l.length (l.flatMap PE.pv))]
 refine zat F21 rfl (qE rfl) fun w0 A => zaa<| tx<| wG (zaJ (X := .agg _) 1 rfl) rfl<| wG (zaE 2 zr24 rfl) rfl<| zab<| zaa<| tx<| wF zaI rfl<| wL U22 rfl<| wP (za9 U22) rfl<| wG (a_make0 9 U22 eo60 (by omega) (by omega) (by simp only [maxLen]; omega)) rfl ?_
 refine wP (zav (r := .row _)) rfl<| zab<| zaa<| zaa<| tx<| wF zaI rfl<| wL U22 rfl<| wP (za9 U22) rfl<| wM rfl<| zab<| zak<| zaM (fun m st => ∃ i : Nat, m + i = l.length ∧ st = St.of [(1, .ref 1 0), (2, .ref 2 0), (3, .row 100), (11, .p (.sl l.length 5 (l.flatMap PE.pv))), (12, .p (.v (.int .i64 l.length))), (13, .p (.v (.int .i64 i)))] [(1, .box 24 (cfC key port l.length (l.flatMap PE.pv))), (2, .box 24 [.p (.v (.string ⟨#[]⟩)), .p (.v (.int .i64 0)), .p (.v (.slice none 0 0))]), (100, .row 60 5 i ((l.take i).flatMap PE.pv))]) l.length ?_ ?_
 ·refine ⟨_, zaK (fun o => bif Nat.beq o 100 then 9 else o) _ _ ?_ ?_ rfl, 0, qO, rfl⟩
  ·(repeat (first | exact trivial | (refine ⟨⟨(by first | rfl | (simp; done) | (simp; omega)), rfl⟩, ?_⟩)))
  ·exact ⟨⟨rfl, rfl⟩, ⟨rfl, rfl⟩, ⟨rfl, rfl⟩, trivial⟩
 rintro m st ⟨i, hi, rfl⟩
 refine zaa<| tx<| wP za8 rfl<| zab<| zaa<| zap _ rfl (fun h => ?_) (fun h => ?_)
 ·have hlt : i < l.length := by simp at h; omega
  clear h
  obtain ⟨p, hp⟩ : ∃ p, l[i]? = some p := ⟨l[i], List.getElem?_eq_getElem hlt⟩
  have hch := zaW (f := PE.pv) (k := 5) (fun _ => rfl) hp
  have hle := zaV (f := PE.pv) (k := 5) (fun _ => rfl) hlt
  have hpl := (ok p (List.mem_of_getElem? hp)).2
  have hC := nclone_s p.nets hpl
  have hpush := pe_push l i p hp
  have hil : ((l.take i).flatMap PE.pv).length = i * 5 := by rw [zaU (k := 5) (fun _ => rfl), List.length_take, Nat.min_eq_left (by omega)]
  generalize hL : l.flatMap PE.pv = L at *
  generalize (l.take i).flatMap PE.pv = T at *
  obtain ⟨pk, sh, ep, al, nn⟩ := p
  dsimp only at hC hpl
  refine zae<| zaa<| zak<| zaa<| tx<| wP (zaA U22 sz60 qO qO rfl) rfl<| wP (zaR U60 rfl sz60 (by first | omega | (simp; done) | (simp; omega)) (hch)) rfl ?_
  refine wG (zaE 5 zr60 rfl) rfl<| wG (zar (Y := .agg [.p (.v (.string pk)), .p (.v (.string sh)), .p (.v (.string ep)), .p (.v (.int .i64 al)), .p (.sl nn.length 2 (nn.flatMap ntC))]) sz60 rfl rfl (Nat.eq_of_beq_eq_true rfl)) rfl<| zab<| zaa<| tx<| wF zbk rfl<| wL U58 rfl<| cS (fun _ => 19) (hC) func48 ?_
  refine wF zbk rfl<| wG (zbs (Y := .row _) sz58 rfl (by first | exact Nat.eq_of_beq_eq_true rfl | (simp only [AV.cells, List.length_map]; first | assumption | omega)) (by first | exact Nat.le_of_ble_eq_true rfl | omega | (simp only [AV.cells, List.length_map]; omega)) (by first | (simp only [setR, AV.cells, List.take_succ_cons, List.take_zero, List.drop_succ_cons, List.drop_zero, List.drop_nil, List.take_nil, List.nil_append, List.cons_append, List.append_nil, List.length_cons, List.length_nil, Nat.reduceAdd, Nat.zero_add, Nat.add_zero]; rfl) | rfl)) rfl ?_
  refine zab<| zbE (zgt (cs := nn.flatMap ntC) 19 rfl) ?_
  skip
  refine tx<| wP (zam (r := .row _)) rfl<| wN U60 sz60 rfl ?_
  refine wG (zaS 23 U22 sz60 zc60 (qE rfl) (qE rfl) rfl rfl rfl rfl (qE rfl)) rfl<| zah (zbe 24 U22 eo60 (zb6) (by simp only [maxLen]; omega) (by omega) rfl rfl) rfl rfl ⟨rfl, rfl, rfl, trivial⟩ ?_
  refine wP (zav (r := .row _)) rfl<| zab<| zbf<| zaf<| tx<| wP (za4 (by first | exact IntWalk.i64_in _ (by omega) | rfl)) rfl ?_
  refine wM rfl<| zab<| zaf<| ⟨m - 1, qO, _, zaK (fun o => bif Nat.beq o 100 then 24 else o) _ _ ?_ ?_ rfl, i + 1, qO, rfl⟩
  ·(repeat (first | exact trivial | (refine ⟨⟨(by first | rfl | (simp; done) | (simp; omega)), rfl⟩, ?_⟩)))
  ·exact ⟨⟨rfl, rfl⟩, ⟨rfl, rfl⟩, ⟨by rw [← hpush]; rfl, rfl⟩, trivial⟩
 have hge : i = l.length := by simp at h; omega
 clear h
 subst hge
 rw [List.take_length]
 refine zaH<| zaa<| tx<| wP (zam (r := .row _)) rfl<| wF zaI rfl<| wG (zbs (Y := .row _) sz22 rfl (by first | exact Nat.eq_of_beq_eq_true rfl | (simp only [AV.cells, List.length_map]; first | assumption | omega)) (by first | exact Nat.le_of_ble_eq_true rfl | omega | (simp only [AV.cells, List.length_map]; omega)) (by first | (simp only [setR, AV.cells, List.take_succ_cons, List.take_zero, List.drop_succ_cons, List.drop_zero, List.drop_nil, List.take_nil, List.nil_append, List.cons_append, List.append_nil, List.length_cons, List.length_nil, Nat.reduceAdd, Nat.zero_add, Nat.add_zero]; rfl) | rfl)) rfl ?_
 refine zab<| zaa<| tx<| wN U24 sz24 rfl ?_
 refine wG (zar (Y := .agg _) sz24 rfl (by first | exact Nat.eq_of_beq_eq_true rfl | (simp only [AV.cells, List.length_map]; first | assumption | omega)) (Nat.eq_of_beq_eq_true rfl)) rfl ?_
 refine zab<| zag ?_
 refine fT (fun _ => 100) (.cellN _ _ _ _ _ _ _ _ _ rfl rfl U24 rfl sz24 (by first | assumption | kernel_rfl) .nil) ?_ ?_
 ·exact rfl
 ·exact ⟨⟨rfl, rfl⟩, trivial⟩
def peN (k : ByteArray) : List PE → Nat
 | [] => 0
 | p :: l => if p.key = k then 0 else peN k l + 1
theorem peN_le (k : ByteArray) : ∀ l : List PE, peN k l ≤ l.length
 | [] => Nat.le_refl _
 | p :: l => by
  have := peN_le k l
  unfold peN
  split
  ·omega
  ·rw [List.length_cons]; omega
theorem peN_at {k : ByteArray} : ∀ {l : List PE} {i : Nat}, (hi : i < l.length) → l[i].key = k → (∀ j, (hj : j < i) → l[j].key ≠ k) → peN k l = i
 | p :: l, 0, _, h, _ => by
  have : p.key = k := by simpa using h
  simp [peN, this]
 | p :: l, i + 1, hi, h, hb => by
  have h0 : p.key ≠ k := by simpa using hb 0 (by omega)
  have ih := peN_at (l := l) (i := i) (by simpa using hi) (by simpa using h) (fun j hj => by simpa using hb (j + 1) (by omega))
  simp [peN, h0, ih]
theorem zgz {k : ByteArray} : ∀ {l : List PE}, (∀ j, (hj : j < l.length) → l[j].key ≠ k) → peN k l = l.length
 | [], _ => rfl
 | p :: l, hb => by
  have h0 : p.key ≠ k := hb 0 qS
  have ih := zgz (k := k) (l := l) (fun j hj => hb (j + 1) (by simpa using hj))
  simp [peN, h0, ih]
theorem find1_s (p : PE) (k : ByteArray) : Fn prog 115 [.agg p.cells, .ptr [.v (.string k)]] (.p (.v (.bool (decide (p.key = k))))) [] := by
 obtain ⟨pk, sh, ep, al, nn⟩ := p
 show Fn prog _ [.agg [.p (.v (.string pk)), .p (.v (.string sh)), .p (.v (.string ep)), .p (.v (.int .i64 al)), .p (.sl nn.length 2 (nn.flatMap ntC))], .ptr [.v (.string k)]] (.p (.v (.bool (decide (pk = k))))) _
 refine zat func115 rfl (qE rfl) fun w0 A => zaa<| tx<| wG (zaJ (X := .agg _) 2 rfl) rfl<| wA rfl<| zab<| zaa<| tx<| wF zbI rfl<| wL U9 rfl ?_
 refine wP (zdv U9 rfl (by first | rfl | assumption | ((try simp only [List.getElem?_drop, List.getElem?_take, Int.toNat_natCast, Nat.mul_one, Nat.add_zero, Nat.zero_add]); first | assumption | rfl))) rfl ?_
 refine wP zeK rfl<| wA rfl<| zab<| zag<| yT ?_ ?_
 ·exact rfl
 ·exact trivial
def peI (k : ByteArray) (l : List PE) : Int := if peN k l < l.length then peN k l else -1
theorem indexF_s (l : List PE) (k : ByteArray) (hn : l.length ≤ 1048576) : Fn prog 84 [.p (.sl l.length 5 (l.flatMap PE.pv)), .fn 115 [.ptr [.v (.string k)]]] (.p (.v (.int .i64 (peI k l)))) [] := by
 refine zat func84 rfl (qE rfl) fun w0 A => zaa<| tx<| wA rfl<| zab<| zaa<| zaa<| tx<| wM rfl<| wP (za9 U22) rfl<| wM rfl<| zab<| zak<| zaM (fun m st => ∃ i : Nat, m + i = l.length ∧ (∀ j, (hj : j < i) → (hj2 : j < l.length) → l[j].key ≠ k) ∧ st = St.of [(0, .p (.sl l.length 5 (l.flatMap PE.pv))), (1, .fn 115 [.ptr [.v (.string k)]]), (7, .p (.v (.int .i64 l.length))), (8, .p (.v (.int .i64 i)))] []) l.length ?_ ?_
 ·refine ⟨_, zaK id _ _ ?_ ?_ rfl, 0, qO, fun j hj => by omega, rfl⟩
  ·(repeat (first | exact trivial | (refine ⟨⟨(by first | rfl | (simp; done) | (simp; omega)), rfl⟩, ?_⟩)))
  ·exact trivial
 rintro m st ⟨i, hi, hb, rfl⟩
 refine zaa<| tx<| wP za8 rfl<| zab<| zaa<| zap _ rfl (fun h => ?_) (fun h => ?_)
 ·have hlt : i < l.length := by simp at h; omega
  clear h
  have hq : l[i]? = some (l[i]'qO) := List.getElem?_eq_getElem qO
  have hch := zaW (f := PE.pv) (k := 5) (fun _ => rfl) hq
  have hle := zaV (f := PE.pv) (k := 5) (fun _ => rfl) hlt
  have hat := @peN_at k l i hlt
  have hstep : (l[i]'qO).key ≠ k → ∀ j, (hj : j < i + 1) → (hj2 : j < l.length) → l[j].key ≠ k := fun hne j hj hj2 => by
   by_cases e : j = i
   ·subst e; exact hne
   ·exact hb j qO hj2
  have hb' : ∀ j, (hj : j < i) → (l[j]'qO).key ≠ k := fun j hj => hb j hj qO
  have hC := find1_s (l[i]'qO) k
  generalize hx : (l[i]'(by omega)) = p at *
  generalize l.flatMap PE.pv = L at *
  refine zae<| zaa<| zak<| zaa<| tx<| wM rfl<| wA rfl<| zab ?_
  by_cases hc : p.key = k
  ·have hI : peI k l = i := by unfold peI; rw [hat hc hb', if_pos hlt]
   rw [hI]
   rw [decide_eq_true hc] at hC
   refine zaa<| tx<| wP (zam (r := .fn _ _)) rfl<| wM rfl<| wM rfl<| wP (zaA U22 sz60 qO qO rfl) rfl<| wP (zaR U60 rfl sz60 (by first | omega | (simp; done) | (simp; omega)) (hch)) rfl ?_
   refine cS (fun n => 16 + 1000 * n) (hC) func115 ?_
   refine zab<| zaf<| zax rfl<| zaa<| tx<| wM rfl<| wA rfl<| zab<| zag<| zaY<| zau<| zau<| zaY<| zau<| yT ?_ ?_
   ·exact rfl
   ·exact trivial
  ·rw [decide_eq_false hc] at hC
   refine zaa<| tx<| wP (zam (r := .fn _ _)) rfl<| wM rfl<| wM rfl<| wP (zaA U22 sz60 qO qO rfl) rfl<| wP (zaR U60 rfl sz60 (by first | omega | (simp; done) | (simp; omega)) (hch)) rfl ?_
   refine cS (fun n => 16 + 1000 * n) (hC) func115 ?_
   refine zab<| zaf<| zai rfl<| zae<| zbf<| zaf<| tx<| wP (za4 (by first | exact IntWalk.i64_in _ (by omega) | rfl)) rfl ?_
   refine wM rfl<| zab<| zaf<| ⟨m - 1, qO, _, zaK id _ _ ?_ ?_ rfl, i + 1, qO, hstep hc, rfl⟩
   ·(repeat (first | exact trivial | (refine ⟨⟨(by first | rfl | (simp; done) | (simp; omega)), rfl⟩, ?_⟩)))
   ·exact trivial
 have hge : i = l.length := by simp at h; omega
 clear h
 have hI : peI k l = -1 := by unfold peI; rw [zgz fun j hj => hb j (by omega) hj, if_neg (by omega)]
 rw [hI]
 refine zaH<| zaa<| tx<| wA rfl<| zab<| zag<| yT ?_ ?_
 ·exact rfl
 ·exact trivial
theorem zfe (c : CF) (ok : c.OK) (k : ByteArray) : Fn prog 79 [.agg c.cells, .p (.v (.string k))] (if peN k c.ps < c.ps.length then .tup [.p (.v (.int .i64 (peN k c.ps : Nat))), .p (.v (.int .i64 0))] else .tup [.p (.v (.int .i64 0)), .p (.v (.int .i64 5))]) [] := by
 obtain ⟨key, port, l⟩ := c
 have hI := indexF_s l k ok.len
 show Fn prog _ [.agg (cfC key port l.length (l.flatMap PE.pv)), _] (if peN k l < l.length then .tup [.p (.v (.int .i64 (peN k l : Nat))), .p (.v (.int .i64 0))] else .tup [.p (.v (.int .i64 0)), .p (.v (.int .i64 5))]) _
 obtain ⟨R, hR⟩ : ∃ R, (if peN k l < l.length then AV.tup [.p (.v (.int .i64 (peN k l : Nat))), .p (.v (.int .i64 0))] else .tup [.p (.v (.int .i64 0)), .p (.v (.int .i64 5))]) = R := ⟨_, rfl⟩
 rw [hR]
 unfold peI at hI
 generalize l.flatMap PE.pv = L at *
 refine zat F79 rfl (qE rfl) fun w0 A => zaa<| tx<| wG (zaJ (X := .agg _) 2 rfl) rfl<| wG (zaJ (X := .p _) 3 rfl) rfl<| wA rfl<| wA rfl<| zab<| zbE (reo_fzV (cs := [.v (.string k)]) 3 rfl rfl) ?_
 by_cases hc : peN k l < l.length
 ·rw [if_pos hc] at hI hR
  subst hR
  generalize peN k l = n at *
  refine zaa<| tx<| wF zaI rfl<| wL U22 rfl<| wP zdT rfl<| cS (fun n => 10 + 1000 * n) (hI) func84 ?_
  refine wA rfl<| zab<| zaa<| zaa<| tx<| wM rfl<| wP za8 rfl<| zab<| zaf<| zap _ rfl (fun h => ?_) (fun h => ?_)
  ·simp at h; omega
  refine zae<| zaa<| tx<| wM rfl<| wA rfl<| wA rfl<| zab<| zag<| fT (fun o => o) (.tmp _ _ _ _ rfl (.tmp _ _ _ _ rfl .nil)) ?_ ?_
  ·exact rfl
  ·exact trivial
 ·rw [if_neg hc] at hI hR
  subst hR
  refine zaa<| tx<| wF zaI rfl<| wL U22 rfl<| wP zdT rfl<| cS (fun n => 10 + 1000 * n) (hI) func84 ?_
  refine wA rfl<| zab<| zaa<| zaa<| tx<| wM rfl<| wP za8 rfl<| zab<| zaf<| zap _ rfl (fun h => ?_) (fun h => ?_)
  ·refine zaa<| tx<| wA rfl<| wA rfl<| zab<| zag<| zau<| fT (fun o => o) (.tmp _ _ _ _ rfl (.tmp _ _ _ _ rfl .nil)) ?_ ?_
   ·exact rfl
   ·exact trivial
  ·cases h
theorem za7 (c : CF) (ok : c.OK) (k : ByteArray) : Fn prog 27 [.agg c.cells, .p (.v (.string k))] (.p (.v (.int .i64 (peN k c.ps : Nat)))) [] := by
 obtain ⟨key, port, l⟩ := c
 have hn := ok.len
 dsimp only at hn
 show Fn prog _ [.agg (cfC key port l.length (l.flatMap PE.pv)), _] (.p (.v (.int .i64 (peN k l : Nat)))) _
 refine zat F27 rfl (qE rfl) fun w0 A => zaa<| tx<| wG (zaJ (X := .agg _) 2 rfl) rfl<| wA rfl<| zab<| zaa<| tx<| wA rfl<| zab<| zaa<| zak<| zaM (fun m st => ∃ i : Nat, m + i = l.length ∧ (∀ j, (hj : j < i) → (hj2 : j < l.length) → l[j].key ≠ k) ∧ st = St.of [(1, .p (.v (.string k))), (2, .ref 2 0), (5, .p (.v (.int .i64 i)))] [(2, .box 24 (cfC key port l.length (l.flatMap PE.pv)))]) l.length ?_ ?_
 ·refine ⟨_, zaK id _ _ ?_ ?_ rfl, 0, qO, fun j hj => by omega, rfl⟩
  ·(repeat (first | exact trivial | (refine ⟨⟨(by first | rfl | (simp; done) | (simp; omega)), rfl⟩, ?_⟩)))
  ·exact ⟨⟨rfl, rfl⟩, trivial⟩
 rintro m st ⟨i, hi, hb, rfl⟩
 by_cases hlt : i < l.length
 ·have hq : l[i]? = some (l[i]'qO) := List.getElem?_eq_getElem qO
  have hch := zaW (f := PE.pv) (k := 5) (fun _ => rfl) hq
  have hle := zaV (f := PE.pv) (k := 5) (fun _ => rfl) hlt
  have hat := @peN_at k l i hlt
  have hstep : (l[i]'qO).key ≠ k → ∀ j, (hj : j < i + 1) → (hj2 : j < l.length) → l[j].key ≠ k := fun hne j hj hj2 => by
   by_cases e : j = i
   ·subst e; exact hne
   ·exact hb j qO hj2
  have hb' : ∀ j, (hj : j < i) → (l[j]'qO).key ≠ k := fun j hj => hb j hj qO
  generalize hx : (l[i]'(by omega)) = p at *
  have hpk : ((l.flatMap PE.pv).drop (i * 5))[0]? = some (.v (.string p.key)) := by
   have := congrArg (fun x => x[0]?) hch
   rw [List.getElem?_take] at this
   simpa [PE.pv] using this
  generalize l.flatMap PE.pv = L at *
  generalize p.key = pk at *
  by_cases hc : pk = k
  ·rw [hat hc hb']
   refine zaa<| zaa<| tx<| wM rfl<| wF zaI rfl<| wL U22 rfl<| wP (za9 U22) rfl<| wP (zbi (c := true) (by simp; omega)) rfl ?_
   refine wM rfl<| wF zaI rfl<| wL U22 rfl<| wM rfl<| wP (zaA U22 sz60 qO qO rfl) rfl<| wP (zcu zbI rfl) rfl<| wP (zdv U9 rfl hpk) rfl<| wM rfl<| wP (zay (c := false) (by simp [hc])) rfl ?_
   refine wP zao rfl<| zab<| zaf<| zai rfl<| zaH<| zaa<| tx<| wM rfl<| wA rfl<| zab<| zag<| yT ?_ ?_
   ·exact rfl
   ·exact trivial
  ·refine zaa<| zaa<| tx<| wM rfl<| wF zaI rfl<| wL U22 rfl<| wP (za9 U22) rfl<| wP (zbi (c := true) (by simp; omega)) rfl ?_
   refine wM rfl<| wF zaI rfl<| wL U22 rfl<| wM rfl<| wP (zaA U22 sz60 qO qO rfl) rfl<| wP (zcu zbI rfl) rfl<| wP (zdv U9 rfl hpk) rfl<| wM rfl<| wP (zay (c := true) (by simp [hc])) rfl ?_
   refine wP zao rfl<| zab<| zaf<| zax rfl<| zae<| zak<| tx<| wM rfl<| wP (za4 (by first | exact IntWalk.i64_in _ (by omega) | rfl)) rfl ?_
   refine wA rfl<| zab<| zbf<| zaf<| ⟨m - 1, qO, _, zaK id _ _ ?_ ?_ rfl, i + 1, qO, hstep hc, rfl⟩
   ·(repeat (first | exact trivial | (refine ⟨⟨(by first | rfl | (simp; done) | (simp; omega)), rfl⟩, ?_⟩)))
   ·exact ⟨⟨rfl, rfl⟩, trivial⟩
 ·have hge : i = l.length := by omega
  rw [zgz fun j hj => hb j (by omega) hj]
  subst hge
  refine zaa<| zaa<| tx<| wM rfl<| wF zaI rfl<| wL U22 rfl<| wP (za9 U22) rfl<| wP (zbi (c := false) qS) rfl<| wM rfl<| wS rfl<| wS rfl<| wS rfl<| wS rfl<| wS rfl<| wS rfl<| wS rfl<| wS rfl<| wP zaj rfl<| zab<| zaf<| zai rfl<| zaH<| zaa<| tx ?_
  refine wM rfl<| wA rfl<| zab<| zag<| yT ?_ ?_
  ·exact rfl
  ·exact trivial
end Go.Proofs.YtkdfdcodkeclmaaGreatDoor
