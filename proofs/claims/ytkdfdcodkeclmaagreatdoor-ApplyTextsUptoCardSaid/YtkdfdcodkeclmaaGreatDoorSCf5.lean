/- conf.Copy, conf.Find, the reference's PeerAt, the law's sameConf, over data. -/
import Derived.Test.YtkdfdcodkeclmaaGreatDoorSCf2
import Derived.Test.YtkdfdcodkeclmaaGreatDoorSBt1
import Derived.Test.YtkdfdcodkeclmaaGreatDoorSFz
namespace Go.Proofs.YtkdfdcodkeclmaaGreatDoor
open Tryz
open Go.RowKit Go.Sort
set_option linter.unusedVariables false
set_option linter.unusedSimpArgs false
set_option maxRecDepth 100000
theorem nclone_s (l : List NtP) (hn : l.length ≤ 1048576) : Fn prog 48 [.p (.sl l.length 2 (l.flatMap ntC))] (.row 0) [(0, .row 27 2 l.length (l.flatMap ntC))] := by
 have hL : (l.flatMap ntC).length = l.length * 2 := zat (f := ntC) (k := 2) (fun _ => rfl) l
 by_cases h0 : l.length = 0
 ·obtain rfl : l = [] := List.eq_nil_of_length_eq_zero h0
  show Fn prog _ [.p (.sl 0 2 [])] (.row 0) [(0, .row 27 2 0 [])]
  refine fnI fun w0 A => ?_
  refine G [8] ?_
  refine zaa (a_seqX U58) rfl rfl ?_
  refine zaf ?_
  refine zaH ?_
  refine awp_condX rfl ?_ ?_
  ·refine G [4, 9, 0] ?_
   refine zaM (zb8 2 100 27 2 rfl rfl) ?_
   refine za2 ?_
   refine zcZ ?_
   refine yT (fun _ => 100) ?_ ?_
   ·exact rfl
   ·exact ⟨⟨rfl, rfl⟩, trivial⟩
  ·refine G [3] ?_
   refine zac (zbX 5 U58 sz27) rfl rfl ⟨rfl, trivial⟩ ?_
   refine mP rfl rfl ?_
   refine zac (zaF 7 U58 eo27 (src_sl) (by simp only [maxLen]; omega) (by omega) rfl rfl) rfl rfl ⟨rfl, rfl, trivial⟩ ?_
   refine G [3, 9, 0] ?_
   refine yT (fun _ => 7) ?_ ?_
   ·exact rfl
   ·exact ⟨⟨rfl, rfl⟩, trivial⟩
 ·generalize l.flatMap ntC = L at *
  generalize l.length = n at *
  refine fnI fun w0 A => ?_
  refine G [8] ?_
  refine zaa (a_seqS U58 (by omega)) rfl rfl ?_
  refine zaf ?_
  refine zaH ?_
  refine zab _ rfl (fun h => ?_) (fun h => ?_)
  ·cases h
  ·refine G [3] ?_
   refine zac (zbX 5 U58 sz27) rfl rfl ⟨rfl, trivial⟩ ?_
   refine mP rfl rfl ?_
   refine zac (zaF 7 U58 eo27 (src_sl) (by simp only [maxLen]; omega) (by omega) (show _ = n by omega) rfl) rfl rfl ⟨rfl, rfl, trivial⟩ ?_
   refine G [3, 9, 0] ?_
   refine yT (fun _ => 7) ?_ ?_
   ·exact rfl
   ·exact ⟨⟨rfl, rfl⟩, trivial⟩
theorem pe_push (l : List PE) (i : Nat) (p : PE) (h : l[i]? = some p) : (l.take i).flatMap PE.pv ++ p.pv = (l.take (i + 1)).flatMap PE.pv := by
 obtain ⟨h1, h2⟩ := List.getElem?_eq_some_iff.1 h
 rw [List.take_succ_eq_append_getElem h1, h2, List.flatMap_append]
 simp
set_option maxHeartbeats 4000000 in
theorem zdc (c : CF) (ok : c.OK) : Fn prog 21 [.agg c.cells] (.agg [.p (.v (.string c.key)), .p (.v (.int .i64 c.port)), .row 0]) [(0, .row 60 5 c.ps.length (c.ps.flatMap PE.pv))] := by
 obtain ⟨key, port, l⟩ := c
 obtain ⟨hn, ok⟩ := ok
 dsimp only at hn ok
 show Fn prog _ [.agg (cfC key port l.length (l.flatMap PE.pv))] (.agg [.p (.v (.string key)), .p (.v (.int .i64 port)), .row 0]) [(0, .row 60 5 l.length (l.flatMap PE.pv))]
 refine fnI fun w0 A => ?_
 refine G [9] ?_
 refine zaa (zaL U22) rfl rfl ?_
 refine zac (a_make0 9 U22 eo60 (by omega) (by omega) (by simp only [maxLen]; omega)) rfl rfl ⟨rfl, trivial⟩ ?_
 refine G [7] ?_
 refine zaa (zaL U22) rfl rfl ?_
 refine G [3] ?_
 refine zal (fun m st => ∃ i : Nat, m + i = l.length ∧ st = St.of [(1, .ref 1 0), (2, .ref 2 0), (3, .row 100), (11, .p (.sl l.length 5 (l.flatMap PE.pv))), (12, .p (.v (.int .i64 l.length))), (13, .p (.v (.int .i64 i)))] [(1, .box 24 (cfC key port l.length (l.flatMap PE.pv))), (2, .box 24 [.p (.v (.string ⟨#[]⟩)), .p (.v (.int .i64 0)), .p (.v (.slice none 0 0))]), (100, .row 60 5 i ((l.take i).flatMap PE.pv))]) l.length ?_ ?_
 ·refine ⟨_, zak (fun o => bif Nat.beq o 100 then 9 else o) _ _ ?_ ?_ rfl, 0, by omega, rfl⟩
  ·(repeat (first | exact trivial | (refine ⟨⟨(by first | rfl | (simp; done) | (simp; omega)), rfl⟩, ?_⟩)))
  ·exact ⟨⟨rfl, rfl⟩, ⟨rfl, rfl⟩, ⟨rfl, rfl⟩, trivial⟩
 rintro m st ⟨i, hi, rfl⟩
 refine G [5] ?_
 refine zab _ rfl (fun h => ?_) (fun h => ?_)
 ·have hlt : i < l.length := by simp at h; omega
  clear h
  obtain ⟨p, hp⟩ : ∃ p, l[i]? = some p := ⟨l[i], List.getElem?_eq_getElem hlt⟩
  have hch := zav (f := PE.pv) (k := 5) (fun _ => rfl) hp
  have hle := zau (f := PE.pv) (k := 5) (fun _ => rfl) hlt
  have hpl := (ok p (List.mem_of_getElem? hp)).2
  have hC := nclone_s p.nets hpl
  have hpush := pe_push l i p hp
  have hil : ((l.take i).flatMap PE.pv).length = i * 5 := by rw [zat (k := 5) (fun _ => rfl), List.length_take, Nat.min_eq_left (by omega)]
  generalize hL : l.flatMap PE.pv = L at *
  generalize (l.take i).flatMap PE.pv = T at *
  obtain ⟨pk, sh, ep, al, nn⟩ := p
  dsimp only at hC hpl
  refine G [5] ?_
  refine zaa (zad U22 sz60 (by omega) (by omega) rfl) rfl rfl ?_
  refine zaa (zaq U60 rfl sz60 (by first | omega | (simp; done) | (simp; omega)) (hch)) rfl rfl ?_
  refine zac (zaV 5 zr60 rfl) rfl rfl ⟨rfl, trivial⟩ ?_
  refine zac (zap (Y := .agg [.p (.v (.string pk)), .p (.v (.string sh)), .p (.v (.string ep)), .p (.v (.int .i64 al)), .p (.sl nn.length 2 (nn.flatMap ntC))]) sz60 rfl rfl (Nat.eq_of_beq_eq_true rfl)) rfl rfl ⟨rfl, trivial⟩ ?_
  refine G [5] ?_
  refine zaw (fun _ => 19) (hC) rfl rfl func48 rfl rfl (by first | rfl | simp [AV.okInL, AV.okIn, zaj]) rfl rfl rfl (by first | exact trivial | exact ⟨rfl, trivial⟩ | exact ⟨rfl, rfl, trivial⟩ | exact ⟨rfl, rfl, rfl, rfl, rfl, trivial⟩) rfl rfl rfl ?_
  refine fA zbo rfl rfl ?_
  refine zac (za9 (Y := .row _) sz58 rfl (by first | exact Nat.eq_of_beq_eq_true rfl | (simp only [AV.cells, List.length_map]; first | assumption | omega)) (by first | exact Nat.le_of_ble_eq_true rfl | omega | (simp only [AV.cells, List.length_map]; omega)) (by first | (simp only [setR, AV.cells, List.take_succ_cons, List.take_zero, List.drop_succ_cons, List.drop_zero, List.drop_nil, List.take_nil, List.nil_append, List.cons_append, List.append_nil, List.length_cons, List.length_nil, Nat.reduceAdd, Nat.zero_add, Nat.add_zero]; rfl) | rfl)) rfl rfl ⟨rfl, trivial⟩ ?_
  refine zaf ?_
  refine zba (zfA (cs := nn.flatMap ntC) 19 rfl) ?_
  skip
  refine G [3] ?_
  refine zac (zan 23 U22 sz60 zc60 (Nat.le_of_ble_eq_true rfl) (Nat.le_of_ble_eq_true rfl) rfl rfl rfl rfl (Nat.le_of_ble_eq_true rfl)) rfl rfl ⟨rfl, trivial⟩ ?_
  refine zac (zaF 24 U22 eo60 (zbl) (by simp only [maxLen]; omega) (by omega) rfl rfl) rfl rfl ⟨rfl, rfl, rfl, trivial⟩ ?_
  refine G [3] ?_
  refine zaa (zas (by first | exact IntWalk.i64_in _ (by omega) | rfl)) rfl rfl ?_
  refine G [2, 9, 0] ?_
  refine ⟨m - 1, by omega, _, zak (fun o => bif Nat.beq o 100 then 24 else o) _ _ ?_ ?_ rfl, i + 1, by omega, rfl⟩
  ·(repeat (first | exact trivial | (refine ⟨⟨(by first | rfl | (simp; done) | (simp; omega)), rfl⟩, ?_⟩)))
  ·exact ⟨⟨rfl, rfl⟩, ⟨rfl, rfl⟩, ⟨by rw [← hpush]; rfl, rfl⟩, trivial⟩
 have hge : i = l.length := by simp at h; omega
 clear h
 subst hge
 rw [List.take_length]
 refine G [5] ?_
 refine zac (za9 (Y := .row _) sz22 rfl (by first | exact Nat.eq_of_beq_eq_true rfl | (simp only [AV.cells, List.length_map]; first | assumption | omega)) (by first | exact Nat.le_of_ble_eq_true rfl | omega | (simp only [AV.cells, List.length_map]; omega)) (by first | (simp only [setR, AV.cells, List.take_succ_cons, List.take_zero, List.drop_succ_cons, List.drop_zero, List.drop_nil, List.take_nil, List.nil_append, List.cons_append, List.append_nil, List.length_cons, List.length_nil, Nat.reduceAdd, Nat.zero_add, Nat.add_zero]; rfl) | rfl)) rfl rfl ⟨rfl, trivial⟩ ?_
 refine G [7, 9, 0] ?_
 refine yT (fun _ => 100) ?_ ?_
 ·exact rfl
 ·exact ⟨⟨rfl, rfl⟩, trivial⟩
def peN (k : ByteArray) : List PE → Nat
 | [] => 0
 | p :: l => if p.key = k then 0 else peN k l + 1
theorem peN_le (k : ByteArray) : ∀ l : List PE, peN k l ≤ l.length
 | [] => Nat.le_refl _
 | p :: l => by
  have := peN_le k l
  unfold peN
  split
  ·omega
  ·rw [List.length_cons]; omega
theorem peN_at {k : ByteArray} : ∀ {l : List PE} {i : Nat}, (hi : i < l.length) → l[i].key = k → (∀ j, (hj : j < i) → l[j].key ≠ k) → peN k l = i
 | p :: l, 0, _, h, _ => by
  have : p.key = k := by simpa using h
  simp [peN, this]
 | p :: l, i + 1, hi, h, hb => by
  have h0 : p.key ≠ k := by simpa using hb 0 (by omega)
  have ih := peN_at (l := l) (i := i) (by simpa using hi) (by simpa using h) (fun j hj => by simpa using hb (j + 1) (by omega))
  simp [peN, h0, ih]
theorem zgE {k : ByteArray} : ∀ {l : List PE}, (∀ j, (hj : j < l.length) → l[j].key ≠ k) → peN k l = l.length
 | [], _ => rfl
 | p :: l, hb => by
  have h0 : p.key ≠ k := hb 0 (by simp)
  have ih := zgE (k := k) (l := l) (fun j hj => hb (j + 1) (by simpa using hj))
  simp [peN, h0, ih]
theorem find1_s (p : PE) (k : ByteArray) : Fn prog 115 [.agg p.cells, .ptr [.v (.string k)]] (.p (.v (.bool (decide (p.key = k))))) [] := by
 obtain ⟨pk, sh, ep, al, nn⟩ := p
 show Fn prog _ [.agg [.p (.v (.string pk)), .p (.v (.string sh)), .p (.v (.string ep)), .p (.v (.int .i64 al)), .p (.sl nn.length 2 (nn.flatMap ntC))], .ptr [.v (.string k)]] (.p (.v (.bool (decide (pk = k))))) _
 refine fnI fun w0 A => ?_
 refine G [9] ?_
 refine zaa (zaZ U9 rfl (by first | rfl | assumption | ((try simp only [List.getElem?_drop, List.getElem?_take, Int.toNat_natCast, Nat.mul_one, Nat.add_zero, Nat.zero_add]); first | assumption | rfl))) rfl rfl ?_
 refine G [4, 9, 0] ?_
 exact yE
def peI (k : ByteArray) (l : List PE) : Int := if peN k l < l.length then peN k l else -1
theorem indexF_s (l : List PE) (k : ByteArray) (hn : l.length ≤ 1048576) : Fn prog 84 [.p (.sl l.length 5 (l.flatMap PE.pv)), .fn 115 [.ptr [.v (.string k)]]] (.p (.v (.int .i64 (peI k l)))) [] := by
 refine fnI fun w0 A => ?_
 refine G [8] ?_
 refine zaa (zaL U22) rfl rfl ?_
 refine G [3] ?_
 refine zal (fun m st => ∃ i : Nat, m + i = l.length ∧ (∀ j, (hj : j < i) → (hj2 : j < l.length) → l[j].key ≠ k) ∧ st = St.of [(0, .p (.sl l.length 5 (l.flatMap PE.pv))), (1, .fn 115 [.ptr [.v (.string k)]]), (7, .p (.v (.int .i64 l.length))), (8, .p (.v (.int .i64 i)))] []) l.length ?_ ?_
 ·refine ⟨_, zak id _ _ ?_ ?_ rfl, 0, by omega, fun j hj => by omega, rfl⟩
  ·(repeat (first | exact trivial | (refine ⟨⟨(by first | rfl | (simp; done) | (simp; omega)), rfl⟩, ?_⟩)))
  ·exact trivial
 rintro m st ⟨i, hi, hb, rfl⟩
 refine G [5] ?_
 refine zab _ rfl (fun h => ?_) (fun h => ?_)
 ·have hlt : i < l.length := by simp at h; omega
  clear h
  have hq : l[i]? = some (l[i]'(by omega)) := List.getElem?_eq_getElem (by omega)
  have hch := zav (f := PE.pv) (k := 5) (fun _ => rfl) hq
  have hle := zau (f := PE.pv) (k := 5) (fun _ => rfl) hlt
  have hat := @peN_at k l i hlt
  have hstep : (l[i]'(by omega)).key ≠ k → ∀ j, (hj : j < i + 1) → (hj2 : j < l.length) → l[j].key ≠ k := fun hne j hj hj2 => by
   by_cases e : j = i
   ·subst e; exact hne
   ·exact hb j (by omega) hj2
  have hb' : ∀ j, (hj : j < i) → (l[j]'(by omega)).key ≠ k := fun j hj => hb j hj (by omega)
  have hC := find1_s (l[i]'(by omega)) k
  generalize hx : (l[i]'(by omega)) = p at *
  generalize l.flatMap PE.pv = L at *
  refine G [8] ?_
  by_cases hc : p.key = k
  ·have hI : peI k l = i := by unfold peI; rw [hat hc hb', if_pos hlt]
   rw [hI]
   rw [decide_eq_true hc] at hC
   refine G [5] ?_
   refine zaa (zad U22 sz60 (by omega) (by omega) rfl) rfl rfl ?_
   refine zaa (zaq U60 rfl sz60 (by first | omega | (simp; done) | (simp; omega)) (hch)) rfl rfl ?_
   refine cK hC ?_
   refine G [8, 9, 0] ?_
   exact yE
  ·rw [decide_eq_false hc] at hC
   refine G [5] ?_
   refine zaa (zad U22 sz60 (by omega) (by omega) rfl) rfl rfl ?_
   refine zaa (zaq U60 rfl sz60 (by first | omega | (simp; done) | (simp; omega)) (hch)) rfl rfl ?_
   refine cK hC ?_
   refine G [4] ?_
   refine zaa (zas (by first | exact IntWalk.i64_in _ (by omega) | rfl)) rfl rfl ?_
   refine G [2, 9, 0] ?_
   refine ⟨m - 1, by omega, _, zak id _ _ ?_ ?_ rfl, i + 1, by omega, hstep hc, rfl⟩
   ·(repeat (first | exact trivial | (refine ⟨⟨(by first | rfl | (simp; done) | (simp; omega)), rfl⟩, ?_⟩)))
   ·exact trivial
 have hge : i = l.length := by simp at h; omega
 clear h
 have hI : peI k l = -1 := by unfold peI; rw [zgE fun j hj => hb j (by omega) hj, if_neg (by omega)]
 rw [hI]
 refine G [6, 9, 0] ?_
 exact yE
theorem ze6 (c : CF) (ok : c.OK) (k : ByteArray) : Fn prog 79 [.agg c.cells, .p (.v (.string k))] (if peN k c.ps < c.ps.length then .tup [.p (.v (.int .i64 (peN k c.ps : Nat))), .p (.v (.int .i64 0))] else .tup [.p (.v (.int .i64 0)), .p (.v (.int .i64 5))]) [] := by
 obtain ⟨key, port, l⟩ := c
 have hI := indexF_s l k ok.len
 show Fn prog _ [.agg (cfC key port l.length (l.flatMap PE.pv)), _] (if peN k l < l.length then .tup [.p (.v (.int .i64 (peN k l : Nat))), .p (.v (.int .i64 0))] else .tup [.p (.v (.int .i64 0)), .p (.v (.int .i64 5))]) _
 obtain ⟨R, hR⟩ : ∃ R, (if peN k l < l.length then AV.tup [.p (.v (.int .i64 (peN k l : Nat))), .p (.v (.int .i64 0))] else .tup [.p (.v (.int .i64 0)), .p (.v (.int .i64 5))]) = R := ⟨_, rfl⟩
 rw [hR]
 unfold peI at hI
 generalize l.flatMap PE.pv = L at *
 refine fnI fun w0 A => ?_
 refine G [7] ?_
 refine zba (reo_fzV (cs := [.v (.string k)]) 3 rfl rfl) ?_
 by_cases hc : peN k l < l.length
 ·rw [if_pos hc] at hI hR
  subst hR
  generalize peN k l = n at *
  refine G [4] ?_
  refine zaa zdD rfl rfl ?_
  refine cK hI ?_
  refine G [8, 9, 0] ?_
  refine zab _ rfl (fun h => ?_) (fun h => ?_)
  ·simp at h; omega
  refine G [8, 9, 0] ?_
  exact yE
 ·rw [if_neg hc] at hI hR
  subst hR
  refine G [4] ?_
  refine zaa zdD rfl rfl ?_
  refine cK hI ?_
  refine G [8, 9, 0] ?_
  refine zab _ rfl (fun h => ?_) (fun h => ?_)
  ·refine G [6, 9, 0] ?_
   exact yE
  ·cases h
theorem zaD (c : CF) (ok : c.OK) (k : ByteArray) : Fn prog 27 [.agg c.cells, .p (.v (.string k))] (.p (.v (.int .i64 (peN k c.ps : Nat)))) [] := by
 obtain ⟨key, port, l⟩ := c
 have hn := ok.len
 dsimp only at hn
 show Fn prog _ [.agg (cfC key port l.length (l.flatMap PE.pv)), _] (.p (.v (.int .i64 (peN k l : Nat)))) _
 refine fnI fun w0 A => ?_
 refine G [11] ?_
 refine zal (fun m st => ∃ i : Nat, m + i = l.length ∧ (∀ j, (hj : j < i) → (hj2 : j < l.length) → l[j].key ≠ k) ∧ st = St.of [(1, .p (.v (.string k))), (2, .ref 2 0), (5, .p (.v (.int .i64 i)))] [(2, .box 24 (cfC key port l.length (l.flatMap PE.pv)))]) l.length ?_ ?_
 ·refine ⟨_, zak id _ _ ?_ ?_ rfl, 0, by omega, fun j hj => by omega, rfl⟩
  ·(repeat (first | exact trivial | (refine ⟨⟨(by first | rfl | (simp; done) | (simp; omega)), rfl⟩, ?_⟩)))
  ·exact ⟨⟨rfl, rfl⟩, trivial⟩
 rintro m st ⟨i, hi, hb, rfl⟩
 by_cases hlt : i < l.length
 ·have hq : l[i]? = some (l[i]'(by omega)) := List.getElem?_eq_getElem (by omega)
  have hch := zav (f := PE.pv) (k := 5) (fun _ => rfl) hq
  have hle := zau (f := PE.pv) (k := 5) (fun _ => rfl) hlt
  have hat := @peN_at k l i hlt
  have hstep : (l[i]'(by omega)).key ≠ k → ∀ j, (hj : j < i + 1) → (hj2 : j < l.length) → l[j].key ≠ k := fun hne j hj hj2 => by
   by_cases e : j = i
   ·subst e; exact hne
   ·exact hb j (by omega) hj2
  have hb' : ∀ j, (hj : j < i) → (l[j]'(by omega)).key ≠ k := fun j hj => hb j hj (by omega)
  generalize hx : (l[i]'(by omega)) = p at *
  have hpk : ((l.flatMap PE.pv).drop (i * 5))[0]? = some (.v (.string p.key)) := by
   have := congrArg (fun x => x[0]?) hch
   rw [List.getElem?_take] at this
   simpa [PE.pv] using this
  generalize l.flatMap PE.pv = L at *
  generalize p.key = pk at *
  by_cases hc : pk = k
  ·rw [hat hc hb']
   refine G [6] ?_
   refine zaa (zaL U22) rfl rfl ?_
   refine zaa (zaN (c := true) (by simp; omega)) rfl rfl ?_
   refine G [4] ?_
   refine zaa (zad U22 sz60 (by omega) (by omega) rfl) rfl rfl ?_
   refine zaa (zbN zfU rfl) rfl rfl ?_
   refine zaa (zaZ U9 rfl hpk) rfl rfl ?_
   refine mP rfl rfl ?_
   refine zaa (zae (c := false) (by simp [hc])) rfl rfl ?_
   refine G [10, 9, 0] ?_
   exact yE
  ·refine G [6] ?_
   refine zaa (zaL U22) rfl rfl ?_
   refine zaa (zaN (c := true) (by simp; omega)) rfl rfl ?_
   refine G [4] ?_
   refine zaa (zad U22 sz60 (by omega) (by omega) rfl) rfl rfl ?_
   refine zaa (zbN zfU rfl) rfl rfl ?_
   refine zaa (zaZ U9 rfl hpk) rfl rfl ?_
   refine mP rfl rfl ?_
   refine zaa (zae (c := true) (by simp [hc])) rfl rfl ?_
   refine G [7] ?_
   refine zaa (zas (by first | exact IntWalk.i64_in _ (by omega) | rfl)) rfl rfl ?_
   refine G [2, 9, 0] ?_
   refine ⟨m - 1, by omega, _, zak id _ _ ?_ ?_ rfl, i + 1, by omega, hstep hc, rfl⟩
   ·(repeat (first | exact trivial | (refine ⟨⟨(by first | rfl | (simp; done) | (simp; omega)), rfl⟩, ?_⟩)))
   ·exact ⟨⟨rfl, rfl⟩, trivial⟩
 ·have hge : i = l.length := by omega
  rw [zgE fun j hj => hb j (by omega) hj]
  subst hge
  refine G [6] ?_
  refine zaa (zaL U22) rfl rfl ?_
  refine zaa (zaN (c := false) (by simp)) rfl rfl ?_
  refine G [19, 9, 0] ?_
  exact yE
end Go.Proofs.YtkdfdcodkeclmaaGreatDoor
