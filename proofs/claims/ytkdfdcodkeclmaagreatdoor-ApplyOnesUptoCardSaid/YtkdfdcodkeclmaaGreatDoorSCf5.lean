/- conf.Copy, conf.Find, the reference's PeerAt, the law's sameConf, over data. -/
import Derived.Test.YtkdfdcodkeclmaaGreatDoorSCf2
import Derived.Test.YtkdfdcodkeclmaaGreatDoorSBt1
import Derived.Test.YtkdfdcodkeclmaaGreatDoorSFz
namespace Go.Proofs.YtkdfdcodkeclmaaGreatDoor
open Go.RowKit Go.Sort
set_option linter.unusedVariables false
set_option linter.unusedSimpArgs false
set_option maxRecDepth 100000
theorem nclone_s (l : List NtP) (hn : l.length ≤ 1048576) : Fn Tryz.prog 48 [.p (.sl l.length 2 (l.flatMap ntC))] (.row 0) [(0, .row 27 2 l.length (l.flatMap ntC))] := by
 have hL : (l.flatMap ntC).length = l.length * 2 := zaP (f := ntC) (k := 2) (fun _ => rfl) l
 by_cases h0 : l.length = 0
 ·obtain rfl : l = [] := List.eq_nil_of_length_eq_zero h0
  show Fn Tryz.prog _ [.p (.sl 0 2 [])] (.row 0) [(0, .row 27 2 0 [])]
  refine zaq Tryz.func48 rfl (Nat.le_of_ble_eq_true rfl) fun w0 A => ?_
  refine zaa ?_
  refine tx ?_
  refine yA ?_
  refine zab ?_
  refine zaa (zaa ?_)
  refine tx ?_
  refine yM ?_
  refine yP (a_seqX Tryz.underlying58) ?_
  refine zab ?_
  refine zae ?_
  refine awp_condX rfl ?_ ?_
  ·refine zaa ?_
   refine tx ?_
   refine yA ?_
   refine zab ?_
   refine zae (zbg (zdu 2 100 27 2 rfl rfl) ?_)
   refine zah (zar ?_)
   refine fT (fun _ => 100) (.tmp _ _ _ _ rfl .nil) ?_ ?_
   ·exact rfl
   ·exact ⟨⟨rfl, rfl⟩, trivial⟩
  ·refine zad (zaa ?_)
   refine tx ?_
   refine zag (zcd 5 Tryz.underlying58 sz27) rfl rfl ⟨rfl, trivial⟩ ?_
   refine yM ?_
   refine zag (za9 7 Tryz.underlying58 eo27 (src_sl) (by simp only [maxLen]; omega) (by omega) rfl rfl) rfl rfl ⟨rfl, rfl, trivial⟩ ?_
   refine yP (zao (r := .row _)) ?_
   refine zab ?_
   refine zah ?_
   refine fT (fun _ => 7) (.tmp _ _ _ _ rfl .nil) ?_ ?_
   ·exact rfl
   ·exact ⟨⟨rfl, rfl⟩, trivial⟩
 ·generalize l.flatMap ntC = L at *
  generalize l.length = n at *
  refine zaq Tryz.func48 rfl (Nat.le_of_ble_eq_true rfl) fun w0 A => ?_
  refine zaa ?_
  refine tx ?_
  refine yA ?_
  refine zab ?_
  refine zaa (zaa ?_)
  refine tx ?_
  refine yM ?_
  refine zac (a_seqS Tryz.underlying58 (by omega)) rfl rfl ?_
  refine zab ?_
  refine zae ?_
  refine zan _ rfl (fun h => ?_) (fun h => ?_)
  ·cases h
  ·refine zad (zaa ?_)
   refine tx ?_
   refine zag (zcd 5 Tryz.underlying58 sz27) rfl rfl ⟨rfl, trivial⟩ ?_
   refine yM ?_
   refine zag (za9 7 Tryz.underlying58 eo27 (src_sl) (by simp only [maxLen]; omega) (by omega) (show _ = n by omega) rfl) rfl rfl ⟨rfl, rfl, trivial⟩ ?_
   refine yP (zao (r := .row _)) ?_
   refine zab ?_
   refine zah ?_
   refine fT (fun _ => 7) (.tmp _ _ _ _ rfl .nil) ?_ ?_
   ·exact rfl
   ·exact ⟨⟨rfl, rfl⟩, trivial⟩
theorem pe_push (l : List PE) (i : Nat) (p : PE) (h : l[i]? = some p) : (l.take i).flatMap PE.pv ++ p.pv = (l.take (i + 1)).flatMap PE.pv := by
 obtain ⟨h1, h2⟩ := List.getElem?_eq_some_iff.1 h
 rw [List.take_succ_eq_append_getElem h1, h2, List.flatMap_append]
 simp
set_option maxHeartbeats 4000000 in
theorem zdI (c : CF) (ok : c.OK) : Fn Tryz.prog 21 [.agg c.cells] (.agg [.p (.v (.string c.key)), .p (.v (.int .i64 c.port)), .row 0]) [(0, .row 60 5 c.ps.length (c.ps.flatMap PE.pv))] := by
 obtain ⟨key, port, l⟩ := c
 obtain ⟨hn, ok⟩ := ok
 dsimp only at hn ok
 show Fn Tryz.prog _ [.agg (cfC key port l.length (l.flatMap PE.pv))] (.agg [.p (.v (.string key)), .p (.v (.int .i64 port)), .row 0]) [(0, .row 60 5 l.length (l.flatMap PE.pv))]
 refine zaq Tryz.func21 rfl (Nat.le_of_ble_eq_true rfl) fun w0 A => ?_
 refine zaa ?_
 refine tx ?_
 refine zag (zaD (X := .agg _) 1 rfl) rfl rfl ⟨rfl, trivial⟩ ?_
 refine zag (zaA 2 zr24 rfl) rfl rfl ⟨rfl, trivial⟩ ?_
 refine zab ?_
 refine zaa ?_
 refine tx ?_
 refine yF zaC ?_
 refine yL Tryz.underlying22 ?_
 refine yP (zbi Tryz.underlying22) ?_
 refine zag (a_make0 9 Tryz.underlying22 eo60 (by omega) (by omega) (by simp only [maxLen]; omega)) rfl rfl ⟨rfl, trivial⟩ ?_
 refine yP (zao (r := .row _)) ?_
 refine zab ?_
 refine zaa (zaa ?_)
 refine tx ?_
 refine yF zaC ?_
 refine yL Tryz.underlying22 ?_
 refine yP (zbi Tryz.underlying22) ?_
 refine yM ?_
 refine zab ?_
 refine zaj ?_
 refine zaK (fun m st => ∃ i : Nat, m + i = l.length ∧ st = St.of [(1, .ref 1 0), (2, .ref 2 0), (3, .row 100), (11, .p (.sl l.length 5 (l.flatMap PE.pv))), (12, .p (.v (.int .i64 l.length))), (13, .p (.v (.int .i64 i)))] [(1, .box 24 (cfC key port l.length (l.flatMap PE.pv))), (2, .box 24 [.p (.v (.string ⟨#[]⟩)), .p (.v (.int .i64 0)), .p (.v (.slice none 0 0))]), (100, .row 60 5 i ((l.take i).flatMap PE.pv))]) l.length ?_ ?_
 ·refine ⟨_, zaF (fun o => bif Nat.beq o 100 then 9 else o) _ _ ?_ ?_ rfl, 0, by omega, rfl⟩
  ·(repeat (first | exact trivial | (refine ⟨⟨(by first | rfl | (simp; done) | (simp; omega)), rfl⟩, ?_⟩)))
  ·exact ⟨⟨rfl, rfl⟩, ⟨rfl, rfl⟩, ⟨rfl, rfl⟩, trivial⟩
 rintro m st ⟨i, hi, rfl⟩
 refine zaa ?_
 refine tx ?_
 refine yP za4 ?_
 refine zab ?_
 refine zaa ?_
 refine zan _ rfl (fun h => ?_) (fun h => ?_)
 ·have hlt : i < l.length := by simp at h; omega
  clear h
  obtain ⟨p, hp⟩ : ∃ p, l[i]? = some p := ⟨l[i], List.getElem?_eq_getElem hlt⟩
  have hch := zaV (f := PE.pv) (k := 5) (fun _ => rfl) hp
  have hle := zaS (f := PE.pv) (k := 5) (fun _ => rfl) hlt
  have hpl := (ok p (List.mem_of_getElem? hp)).2
  have hC := nclone_s p.nets hpl
  have hpush := pe_push l i p hp
  have hil : ((l.take i).flatMap PE.pv).length = i * 5 := by rw [zaP (k := 5) (fun _ => rfl), List.length_take, Nat.min_eq_left (by omega)]
  generalize hL : l.flatMap PE.pv = L at *
  generalize (l.take i).flatMap PE.pv = T at *
  obtain ⟨pk, sh, ep, al, nn⟩ := p
  dsimp only at hC hpl
  refine zad (zaa (zaj (zaa ?_)))
  refine tx ?_
  refine zac (zax Tryz.underlying22 sz60 (by omega) (by omega) rfl) rfl rfl ?_
  refine zac (zaN Tryz.underlying60 rfl sz60 (by first | omega | (simp; done) | (simp; omega)) (hch)) rfl rfl ?_
  refine zag (zaA 5 zr60 rfl) rfl rfl ⟨rfl, trivial⟩ ?_
  refine zag (zas (Y := .agg [.p (.v (.string pk)), .p (.v (.string sh)), .p (.v (.string ep)), .p (.v (.int .i64 al)), .p (.sl nn.length 2 (nn.flatMap ntC))]) sz60 rfl rfl (Nat.eq_of_beq_eq_true rfl)) rfl rfl ⟨rfl, trivial⟩ ?_
  refine zab ?_
  refine zaa ?_
  refine tx ?_
  refine yF zbc ?_
  refine yL Tryz.underlying58 ?_
  refine cS (fun _ => 19) (hC) Tryz.func48 ?_
  refine yF zbc ?_
  refine zag (zbS (Y := .row _) sz58 rfl (by first | exact Nat.eq_of_beq_eq_true rfl | (simp only [AV.cells, List.length_map]; first | assumption | omega)) (by first | exact Nat.le_of_ble_eq_true rfl | omega | (simp only [AV.cells, List.length_map]; omega)) (by first | (simp only [setR, AV.cells, List.take_succ_cons, List.take_zero, List.drop_succ_cons, List.drop_zero, List.drop_nil, List.take_nil, List.nil_append, List.cons_append, List.append_nil, List.length_cons, List.length_nil, Nat.reduceAdd, Nat.zero_add, Nat.add_zero]; rfl) | rfl)) rfl rfl ⟨rfl, trivial⟩ ?_
  refine zab ?_
  refine zbF (reo_fzR (cs := nn.flatMap ntC) 19 rfl) ?_
  skip
  refine tx ?_
  refine yP (zal (r := .row _)) ?_
  refine lN Tryz.underlying60 rfl sz60 rfl rfl ⟨rfl, trivial⟩ ?_
  refine zag (zaI 23 Tryz.underlying22 sz60 zc60 (Nat.le_of_ble_eq_true rfl) (Nat.le_of_ble_eq_true rfl) rfl rfl rfl rfl (Nat.le_of_ble_eq_true rfl)) rfl rfl ⟨rfl, trivial⟩ ?_
  refine zag (za9 24 Tryz.underlying22 eo60 (zb1) (by simp only [maxLen]; omega) (by omega) rfl rfl) rfl rfl ⟨rfl, rfl, rfl, trivial⟩ ?_
  refine yP (zao (r := .row _)) ?_
  refine zab ?_
  refine zba (zae ?_)
  refine tx ?_
  refine zac (za1 (by first | exact IntWalk.i64_in _ (by omega) | rfl)) rfl rfl ?_
  refine yM ?_
  refine zab ?_
  refine zae ?_
  refine ⟨m - 1, by omega, _, zaF (fun o => bif Nat.beq o 100 then 24 else o) _ _ ?_ ?_ rfl, i + 1, by omega, rfl⟩
  ·(repeat (first | exact trivial | (refine ⟨⟨(by first | rfl | (simp; done) | (simp; omega)), rfl⟩, ?_⟩)))
  ·exact ⟨⟨rfl, rfl⟩, ⟨rfl, rfl⟩, ⟨by rw [← hpush]; rfl, rfl⟩, trivial⟩
 have hge : i = l.length := by simp at h; omega
 clear h
 subst hge
 rw [List.take_length]
 refine zaE (zaa ?_)
 refine tx ?_
 refine yP (zal (r := .row _)) ?_
 refine yF zaC ?_
 refine zag (zbS (Y := .row _) sz22 rfl (by first | exact Nat.eq_of_beq_eq_true rfl | (simp only [AV.cells, List.length_map]; first | assumption | omega)) (by first | exact Nat.le_of_ble_eq_true rfl | omega | (simp only [AV.cells, List.length_map]; omega)) (by first | (simp only [setR, AV.cells, List.take_succ_cons, List.take_zero, List.drop_succ_cons, List.drop_zero, List.drop_nil, List.take_nil, List.nil_append, List.cons_append, List.append_nil, List.length_cons, List.length_nil, Nat.reduceAdd, Nat.zero_add, Nat.add_zero]; rfl) | rfl)) rfl rfl ⟨rfl, trivial⟩ ?_
 refine zab ?_
 refine zaa ?_
 refine tx ?_
 refine lN Tryz.underlying24 rfl sz24 rfl rfl ⟨rfl, trivial⟩ ?_
 refine zag (zas (Y := .agg _) sz24 rfl (by first | exact Nat.eq_of_beq_eq_true rfl | (simp only [AV.cells, List.length_map]; first | assumption | omega)) (Nat.eq_of_beq_eq_true rfl)) rfl rfl ⟨rfl, trivial⟩ ?_
 refine zab ?_
 refine zah ?_
 refine fT (fun _ => 100) (.cellN _ _ _ _ _ _ _ _ _ rfl rfl Tryz.underlying24 rfl sz24 (by first | assumption | kernel_rfl) .nil) ?_ ?_
 ·exact rfl
 ·exact ⟨⟨rfl, rfl⟩, trivial⟩
def peN (k : ByteArray) : List PE → Nat
 | [] => 0
 | p :: l => if p.key = k then 0 else peN k l + 1
theorem peN_le (k : ByteArray) : ∀ l : List PE, peN k l ≤ l.length
 | [] => Nat.le_refl _
 | p :: l => by
  have := peN_le k l
  unfold peN
  split
  ·omega
  ·rw [List.length_cons]; omega
theorem peN_at {k : ByteArray} : ∀ {l : List PE} {i : Nat}, (hi : i < l.length) → l[i].key = k → (∀ j, (hj : j < i) → l[j].key ≠ k) → peN k l = i
 | p :: l, 0, _, h, _ => by
  have : p.key = k := by simpa using h
  simp [peN, this]
 | p :: l, i + 1, hi, h, hb => by
  have h0 : p.key ≠ k := by simpa using hb 0 (by omega)
  have ih := peN_at (l := l) (i := i) (by simpa using hi) (by simpa using h) (fun j hj => by simpa using hb (j + 1) (by omega))
  simp [peN, h0, ih]
theorem zgk {k : ByteArray} : ∀ {l : List PE}, (∀ j, (hj : j < l.length) → l[j].key ≠ k) → peN k l = l.length
 | [], _ => rfl
 | p :: l, hb => by
  have h0 : p.key ≠ k := hb 0 (by simp)
  have ih := zgk (k := k) (l := l) (fun j hj => hb (j + 1) (by simpa using hj))
  simp [peN, h0, ih]
theorem find1_s (p : PE) (k : ByteArray) : Fn Tryz.prog 115 [.agg p.cells, .ptr [.v (.string k)]] (.p (.v (.bool (decide (p.key = k))))) [] := by
 obtain ⟨pk, sh, ep, al, nn⟩ := p
 show Fn Tryz.prog _ [.agg [.p (.v (.string pk)), .p (.v (.string sh)), .p (.v (.string ep)), .p (.v (.int .i64 al)), .p (.sl nn.length 2 (nn.flatMap ntC))], .ptr [.v (.string k)]] (.p (.v (.bool (decide (pk = k))))) _
 refine zaq Tryz.func115 rfl (Nat.le_of_ble_eq_true rfl) fun w0 A => ?_
 refine zaa ?_
 refine tx ?_
 refine zag (zaD (X := .agg _) 2 rfl) rfl rfl ⟨rfl, trivial⟩ ?_
 refine yA ?_
 refine zab ?_
 refine zaa ?_
 refine tx ?_
 refine yF zby ?_
 refine yL Tryz.underlying9 ?_
 refine zac (zdl Tryz.underlying9 rfl (by first | rfl | assumption | ((try simp only [List.getElem?_drop, List.getElem?_take, Int.toNat_natCast, Nat.mul_one, Nat.add_zero, Nat.zero_add]); first | assumption | rfl))) rfl rfl ?_
 refine yP zeA ?_
 refine yA ?_
 refine zab ?_
 refine zah ?_
 refine yT ?_ ?_
 ·exact rfl
 ·exact trivial
def peI (k : ByteArray) (l : List PE) : Int := if peN k l < l.length then peN k l else -1
theorem indexF_s (l : List PE) (k : ByteArray) (hn : l.length ≤ 1048576) : Fn Tryz.prog 84 [.p (.sl l.length 5 (l.flatMap PE.pv)), .fn 115 [.ptr [.v (.string k)]]] (.p (.v (.int .i64 (peI k l)))) [] := by
 refine zaq Tryz.func84 rfl (Nat.le_of_ble_eq_true rfl) fun w0 A => ?_
 refine zaa ?_
 refine tx ?_
 refine yA ?_
 refine zab ?_
 refine zaa (zaa ?_)
 refine tx ?_
 refine yM ?_
 refine yP (zbi Tryz.underlying22) ?_
 refine yM ?_
 refine zab ?_
 refine zaj ?_
 refine zaK (fun m st => ∃ i : Nat, m + i = l.length ∧ (∀ j, (hj : j < i) → (hj2 : j < l.length) → l[j].key ≠ k) ∧ st = St.of [(0, .p (.sl l.length 5 (l.flatMap PE.pv))), (1, .fn 115 [.ptr [.v (.string k)]]), (7, .p (.v (.int .i64 l.length))), (8, .p (.v (.int .i64 i)))] []) l.length ?_ ?_
 ·refine ⟨_, zaF id _ _ ?_ ?_ rfl, 0, by omega, fun j hj => by omega, rfl⟩
  ·(repeat (first | exact trivial | (refine ⟨⟨(by first | rfl | (simp; done) | (simp; omega)), rfl⟩, ?_⟩)))
  ·exact trivial
 rintro m st ⟨i, hi, hb, rfl⟩
 refine zaa ?_
 refine tx ?_
 refine yP za4 ?_
 refine zab ?_
 refine zaa ?_
 refine zan _ rfl (fun h => ?_) (fun h => ?_)
 ·have hlt : i < l.length := by simp at h; omega
  clear h
  have hq : l[i]? = some (l[i]'(by omega)) := List.getElem?_eq_getElem (by omega)
  have hch := zaV (f := PE.pv) (k := 5) (fun _ => rfl) hq
  have hle := zaS (f := PE.pv) (k := 5) (fun _ => rfl) hlt
  have hat := @peN_at k l i hlt
  have hstep : (l[i]'(by omega)).key ≠ k → ∀ j, (hj : j < i + 1) → (hj2 : j < l.length) → l[j].key ≠ k := fun hne j hj hj2 => by
   by_cases e : j = i
   ·subst e; exact hne
   ·exact hb j (by omega) hj2
  have hb' : ∀ j, (hj : j < i) → (l[j]'(by omega)).key ≠ k := fun j hj => hb j hj (by omega)
  have hC := find1_s (l[i]'(by omega)) k
  generalize hx : (l[i]'(by omega)) = p at *
  generalize l.flatMap PE.pv = L at *
  refine zad (zaa (zaj (zaa ?_)))
  refine tx ?_
  refine yM ?_
  refine yA ?_
  refine zab ?_
  by_cases hc : p.key = k
  ·have hI : peI k l = i := by unfold peI; rw [hat hc hb', if_pos hlt]
   rw [hI]
   rw [decide_eq_true hc] at hC
   refine zaa ?_
   refine tx ?_
   refine yP (zal (r := .fn _ _)) ?_
   refine yM ?_
   refine yM ?_
   refine zac (zax Tryz.underlying22 sz60 (by omega) (by omega) rfl) rfl rfl ?_
   refine zac (zaN Tryz.underlying60 rfl sz60 (by first | omega | (simp; done) | (simp; omega)) (hch)) rfl rfl ?_
   refine cS (fun n => 16 + 1000 * n) (hC) Tryz.func115 ?_
   refine zab ?_
   refine zae ?_
   refine zat rfl ?_
   refine zaa ?_
   refine tx ?_
   refine yM ?_
   refine yA ?_
   refine zab ?_
   refine zah (zaR (zar (zar (zaR (zar ?_)))))
   refine yT ?_ ?_
   ·exact rfl
   ·exact trivial
  ·rw [decide_eq_false hc] at hC
   refine zaa ?_
   refine tx ?_
   refine yP (zal (r := .fn _ _)) ?_
   refine yM ?_
   refine yM ?_
   refine zac (zax Tryz.underlying22 sz60 (by omega) (by omega) rfl) rfl rfl ?_
   refine zac (zaN Tryz.underlying60 rfl sz60 (by first | omega | (simp; done) | (simp; omega)) (hch)) rfl rfl ?_
   refine cS (fun n => 16 + 1000 * n) (hC) Tryz.func115 ?_
   refine zab ?_
   refine zae ?_
   refine zaf rfl ?_
   refine zad (zba (zae ?_))
   refine tx ?_
   refine zac (za1 (by first | exact IntWalk.i64_in _ (by omega) | rfl)) rfl rfl ?_
   refine yM ?_
   refine zab ?_
   refine zae ?_
   refine ⟨m - 1, by omega, _, zaF id _ _ ?_ ?_ rfl, i + 1, by omega, hstep hc, rfl⟩
   ·(repeat (first | exact trivial | (refine ⟨⟨(by first | rfl | (simp; done) | (simp; omega)), rfl⟩, ?_⟩)))
   ·exact trivial
 have hge : i = l.length := by simp at h; omega
 clear h
 have hI : peI k l = -1 := by unfold peI; rw [zgk fun j hj => hb j (by omega) hj, if_neg (by omega)]
 rw [hI]
 refine zaE (zaa ?_)
 refine tx ?_
 refine yA ?_
 refine zab ?_
 refine zah ?_
 refine yT ?_ ?_
 ·exact rfl
 ·exact trivial
theorem ze4 (c : CF) (ok : c.OK) (k : ByteArray) : Fn Tryz.prog 79 [.agg c.cells, .p (.v (.string k))] (if peN k c.ps < c.ps.length then .tup [.p (.v (.int .i64 (peN k c.ps : Nat))), .p (.v (.int .i64 0))] else .tup [.p (.v (.int .i64 0)), .p (.v (.int .i64 5))]) [] := by
 obtain ⟨key, port, l⟩ := c
 have hI := indexF_s l k ok.len
 show Fn Tryz.prog _ [.agg (cfC key port l.length (l.flatMap PE.pv)), _] (if peN k l < l.length then .tup [.p (.v (.int .i64 (peN k l : Nat))), .p (.v (.int .i64 0))] else .tup [.p (.v (.int .i64 0)), .p (.v (.int .i64 5))]) _
 obtain ⟨R, hR⟩ : ∃ R, (if peN k l < l.length then AV.tup [.p (.v (.int .i64 (peN k l : Nat))), .p (.v (.int .i64 0))] else .tup [.p (.v (.int .i64 0)), .p (.v (.int .i64 5))]) = R := ⟨_, rfl⟩
 rw [hR]
 unfold peI at hI
 generalize l.flatMap PE.pv = L at *
 refine zaq Tryz.func79 rfl (Nat.le_of_ble_eq_true rfl) fun w0 A => ?_
 refine zaa ?_
 refine tx ?_
 refine zag (zaD (X := .agg _) 2 rfl) rfl rfl ⟨rfl, trivial⟩ ?_
 refine zag (zaD (X := .p _) 3 rfl) rfl rfl ⟨rfl, trivial⟩ ?_
 refine yA ?_
 refine yA ?_
 refine zab ?_
 refine zbF (reo_fzV (cs := [.v (.string k)]) 3 rfl rfl) ?_
 by_cases hc : peN k l < l.length
 ·rw [if_pos hc] at hI hR
  subst hR
  generalize peN k l = n at *
  refine zaa ?_
  refine tx ?_
  refine yF zaC ?_
  refine yL Tryz.underlying22 ?_
  refine yP zdK ?_
  refine cS (fun n => 10 + 1000 * n) (hI) Tryz.func84 ?_
  refine yA ?_
  refine zab ?_
  refine zaa (zaa ?_)
  refine tx ?_
  refine yM ?_
  refine yP za4 ?_
  refine zab ?_
  refine zae ?_
  refine zan _ rfl (fun h => ?_) (fun h => ?_)
  ·simp at h; omega
  refine zad (zaa ?_)
  refine tx ?_
  refine yM ?_
  refine yA ?_
  refine yA ?_
  refine zab ?_
  refine zah ?_
  refine fT (fun o => o) (.tmp _ _ _ _ rfl (.tmp _ _ _ _ rfl .nil)) ?_ ?_
  ·exact rfl
  ·exact trivial
 ·rw [if_neg hc] at hI hR
  subst hR
  refine zaa ?_
  refine tx ?_
  refine yF zaC ?_
  refine yL Tryz.underlying22 ?_
  refine yP zdK ?_
  refine cS (fun n => 10 + 1000 * n) (hI) Tryz.func84 ?_
  refine yA ?_
  refine zab ?_
  refine zaa (zaa ?_)
  refine tx ?_
  refine yM ?_
  refine yP za4 ?_
  refine zab ?_
  refine zae ?_
  refine zan _ rfl (fun h => ?_) (fun h => ?_)
  ·refine zaa ?_
   refine tx ?_
   refine yA ?_
   refine yA ?_
   refine zab ?_
   refine zah (zar ?_)
   refine fT (fun o => o) (.tmp _ _ _ _ rfl (.tmp _ _ _ _ rfl .nil)) ?_ ?_
   ·exact rfl
   ·exact trivial
  ·cases h
theorem za0 (c : CF) (ok : c.OK) (k : ByteArray) : Fn Tryz.prog 27 [.agg c.cells, .p (.v (.string k))] (.p (.v (.int .i64 (peN k c.ps : Nat)))) [] := by
 obtain ⟨key, port, l⟩ := c
 have hn := ok.len
 dsimp only at hn
 show Fn Tryz.prog _ [.agg (cfC key port l.length (l.flatMap PE.pv)), _] (.p (.v (.int .i64 (peN k l : Nat)))) _
 refine zaq Tryz.func27 rfl (Nat.le_of_ble_eq_true rfl) fun w0 A => ?_
 refine zaa ?_
 refine tx ?_
 refine zag (zaD (X := .agg _) 2 rfl) rfl rfl ⟨rfl, trivial⟩ ?_
 refine yA ?_
 refine zab ?_
 refine zaa ?_
 refine tx ?_
 refine yA ?_
 refine zab ?_
 refine zaa (zaj ?_)
 refine zaK (fun m st => ∃ i : Nat, m + i = l.length ∧ (∀ j, (hj : j < i) → (hj2 : j < l.length) → l[j].key ≠ k) ∧ st = St.of [(1, .p (.v (.string k))), (2, .ref 2 0), (5, .p (.v (.int .i64 i)))] [(2, .box 24 (cfC key port l.length (l.flatMap PE.pv)))]) l.length ?_ ?_
 ·refine ⟨_, zaF id _ _ ?_ ?_ rfl, 0, by omega, fun j hj => by omega, rfl⟩
  ·(repeat (first | exact trivial | (refine ⟨⟨(by first | rfl | (simp; done) | (simp; omega)), rfl⟩, ?_⟩)))
  ·exact ⟨⟨rfl, rfl⟩, trivial⟩
 rintro m st ⟨i, hi, hb, rfl⟩
 by_cases hlt : i < l.length
 ·have hq : l[i]? = some (l[i]'(by omega)) := List.getElem?_eq_getElem (by omega)
  have hch := zaV (f := PE.pv) (k := 5) (fun _ => rfl) hq
  have hle := zaS (f := PE.pv) (k := 5) (fun _ => rfl) hlt
  have hat := @peN_at k l i hlt
  have hstep : (l[i]'(by omega)).key ≠ k → ∀ j, (hj : j < i + 1) → (hj2 : j < l.length) → l[j].key ≠ k := fun hne j hj hj2 => by
   by_cases e : j = i
   ·subst e; exact hne
   ·exact hb j (by omega) hj2
  have hb' : ∀ j, (hj : j < i) → (l[j]'(by omega)).key ≠ k := fun j hj => hb j hj (by omega)
  generalize hx : (l[i]'(by omega)) = p at *
  have hpk : ((l.flatMap PE.pv).drop (i * 5))[0]? = some (.v (.string p.key)) := by
   have := congrArg (fun x => x[0]?) hch
   rw [List.getElem?_take] at this
   simpa [PE.pv] using this
  generalize l.flatMap PE.pv = L at *
  generalize p.key = pk at *
  by_cases hc : pk = k
  ·rw [hat hc hb']
   refine zaa (zaa ?_)
   refine tx ?_
   refine yM ?_
   refine yF zaC ?_
   refine yL Tryz.underlying22 ?_
   refine yP (zbi Tryz.underlying22) ?_
   refine zac (za7 (c := true) (by simp; omega)) rfl rfl ?_
   refine yM ?_
   refine yF zaC ?_
   refine yL Tryz.underlying22 ?_
   refine yM ?_
   refine zac (zax Tryz.underlying22 sz60 (by omega) (by omega) rfl) rfl rfl ?_
   refine yP (zcl zby rfl) ?_
   refine yP (zdl Tryz.underlying9 rfl hpk) ?_
   refine yM ?_
   refine zac (zau (c := false) (by simp [hc])) rfl rfl ?_
   refine yP zam ?_
   refine zab ?_
   refine zae ?_
   refine zaf rfl ?_
   refine zaE (zaa ?_)
   refine tx ?_
   refine yM ?_
   refine yA ?_
   refine zab ?_
   refine zah ?_
   refine yT ?_ ?_
   ·exact rfl
   ·exact trivial
  ·refine zaa (zaa ?_)
   refine tx ?_
   refine yM ?_
   refine yF zaC ?_
   refine yL Tryz.underlying22 ?_
   refine yP (zbi Tryz.underlying22) ?_
   refine zac (za7 (c := true) (by simp; omega)) rfl rfl ?_
   refine yM ?_
   refine yF zaC ?_
   refine yL Tryz.underlying22 ?_
   refine yM ?_
   refine zac (zax Tryz.underlying22 sz60 (by omega) (by omega) rfl) rfl rfl ?_
   refine yP (zcl zby rfl) ?_
   refine yP (zdl Tryz.underlying9 rfl hpk) ?_
   refine yM ?_
   refine zac (zau (c := true) (by simp [hc])) rfl rfl ?_
   refine yP zam ?_
   refine zab ?_
   refine zae ?_
   refine zat rfl ?_
   refine zad (zaj ?_)
   refine tx ?_
   refine yM ?_
   refine zac (za1 (by first | exact IntWalk.i64_in _ (by omega) | rfl)) rfl rfl ?_
   refine yA ?_
   refine zab ?_
   refine zba (zae ?_)
   refine ⟨m - 1, by omega, _, zaF id _ _ ?_ ?_ rfl, i + 1, by omega, hstep hc, rfl⟩
   ·(repeat (first | exact trivial | (refine ⟨⟨(by first | rfl | (simp; done) | (simp; omega)), rfl⟩, ?_⟩)))
   ·exact ⟨⟨rfl, rfl⟩, trivial⟩
 ·have hge : i = l.length := by omega
  rw [zgk fun j hj => hb j (by omega) hj]
  subst hge
  refine zaa (zaa ?_)
  refine tx ?_
  refine yM ?_
  refine yF zaC ?_
  refine yL Tryz.underlying22 ?_
  refine yP (zbi Tryz.underlying22) ?_
  refine zac (za7 (c := false) (by simp)) rfl rfl ?_
  refine yM ?_
  refine yS ?_
  refine yS ?_
  refine yS ?_
  refine yS ?_
  refine yS ?_
  refine yS ?_
  refine yS ?_
  refine yS ?_
  refine yP zai ?_
  refine zab ?_
  refine zae ?_
  refine zaf rfl ?_
  refine zaE (zaa ?_)
  refine tx ?_
  refine yM ?_
  refine yA ?_
  refine zab ?_
  refine zah ?_
  refine yT ?_ ?_
  ·exact rfl
  ·exact trivial
end Go.Proofs.YtkdfdcodkeclmaaGreatDoor
