/- The reference's ConfFault, over data. -/
import Derived.Test.YtkdfdcodkeclmaaGreatDoorSCf3
import Derived.Test.YtkdfdcodkeclmaaGreatDoorSMq
namespace Go.Proofs.YtkdfdcodkeclmaaGreatDoor
open Go.RowKit Go.Sort
set_option linter.unusedVariables false
set_option linter.unusedSimpArgs false
set_option maxRecDepth 100000
theorem key_ne' : ¬ keyE ⟨#[]⟩ = 0 := by decide +kernel
def lastP (l : List PE) (i : Nat) : ByteArray := if i = 0 then ⟨#[]⟩ else (peG l (i - 1)).key
theorem lastP_le (l : List PE) (i : Nat) (k : ByteArray) (hk : k ≠ ⟨#[]⟩) : leK k (lastP l i) = true ↔ (0 < i ∧ leK k (peG l (i - 1)).key = true) := by
 unfold lastP
 by_cases h : i = 0
 ·rw [if_pos h]
  constructor
  ·intro h1
   unfold leK at h1
   rw [sLt_empty] at h1
   simp at h1
   exact absurd h1 hk
  ·rintro ⟨h1, _⟩
   omega
 ·rw [if_neg h]
  constructor
  ·exact fun h1 => ⟨by omega, h1⟩
  ·exact fun h1 => h1.2
theorem netE_push (X : List NtP) (q : NtP) : netE X ++ [(netK q, Value.bool true)] = netE (X ++ [q]) := by simp [netE]
set_option maxHeartbeats 8000000 in
theorem zbj (c : CF) (ok : c.OK) : Fn Tryz.prog 24 [.agg c.cells] (.p (.v (.int .i64 (cfE c)))) [] := by
 obtain ⟨key, port, l⟩ := c
 obtain ⟨hn, ok⟩ := ok
 dsimp only at hn ok
 obtain ⟨E, hE⟩ : ∃ E, cfE ⟨key, port, l⟩ = E := ⟨_, rfl⟩
 rw [hE]
 unfold cfE at hE
 dsimp only at hE
 have hK := zcB key
 show Fn Tryz.prog _ [.agg (cfC key port l.length (l.flatMap PE.pv))] _ _
 generalize keyE key = k1 at *
 refine zaq Tryz.func24 rfl (Nat.le_of_ble_eq_true rfl) fun w0 A => ?_
 refine zaa ?_
 refine tx ?_
 refine zag (zaD (X := .agg _) 1 rfl) rfl rfl ⟨rfl, trivial⟩ ?_
 refine yA ?_
 refine zab ?_
 by_cases hk : key ≠ ⟨#[]⟩ ∧ k1 ≠ 0
 ·rw [if_pos hk] at hE
  subst hE
  refine zaa (zaa ?_)
  refine tx ?_
  refine yF zbz ?_
  refine yL Tryz.underlying9 ?_
  refine zac (zau (c := true) (by simp [hk.1])) rfl rfl ?_
  refine yM ?_
  refine yF zbz ?_
  refine yL Tryz.underlying9 ?_
  (first | refine yS ?_ | refine yV (fun n => 16 + 1000 * n) (hK) Tryz.func55 ?_)
  refine zac (zaM (c := true) (by simp [hk.2])) rfl rfl ?_
  refine yP zam ?_
  refine zab ?_
  refine zae ?_
  refine zat rfl ?_
  refine zaa ?_
  refine tx ?_
  refine yF zbz ?_
  refine yL Tryz.underlying9 ?_
  refine yV (fun n => 21 + 1000 * n) (hK) Tryz.func55 ?_
  refine yA ?_
  refine zab ?_
  refine zah (zar ?_)
  refine yT ?_ ?_
  ·exact rfl
  ·exact trivial
 rw [if_neg hk] at hE
 refine zaa (zaa ?_)
 refine awp_joinS (St.of [(1, .ref 1 0)] [(1, .box 24 (cfC key port l.length (l.flatMap PE.pv)))]) ?_ ?_
 ·by_cases hk0 : key = ⟨#[]⟩
  ·skip
   refine tx ?_
   refine yF zbz ?_
   refine yL Tryz.underlying9 ?_
   refine zac (zau (c := false) (by simp [hk0])) rfl rfl ?_
   refine yM ?_
   refine yS ?_
   refine yS ?_
   refine yS ?_
   refine yS ?_
   refine yP zai ?_
   refine zab ?_
   refine zae ?_
   refine zaf rfl ?_
   refine zad (zae ?_)
   exact zaF id _ _ (by repeat (first | exact trivial | refine ⟨⟨rfl, rfl⟩, ?_⟩)) (by repeat (first | exact trivial | refine ⟨⟨rfl, rfl⟩, ?_⟩)) rfl
  ·have hk1 : k1 = 0 := Decidable.not_not.1 fun e => hk ⟨hk0, e⟩
   skip
   refine tx ?_
   refine yF zbz ?_
   refine yL Tryz.underlying9 ?_
   refine zac (zau (c := true) (by simp [hk0])) rfl rfl ?_
   refine yM ?_
   refine yF zbz ?_
   refine yL Tryz.underlying9 ?_
   (first | refine yS ?_ | refine yV (fun n => 16 + 1000 * n) (hK) Tryz.func55 ?_)
   refine zac (zaM (c := false) (by simp [hk1])) rfl rfl ?_
   refine yP zam ?_
   refine zab ?_
   refine zae ?_
   refine zaf rfl ?_
   refine zad (zae ?_)
   exact zaF id _ _ (by repeat (first | exact trivial | refine ⟨⟨rfl, rfl⟩, ?_⟩)) (by repeat (first | exact trivial | refine ⟨⟨rfl, rfl⟩, ?_⟩)) rfl
 clear hk hK
 refine zaa (zaa ?_)
 refine tx ?_
 refine yF zev ?_
 refine yL Tryz.underlying3 ?_
 refine yP za4 ?_
 refine yM ?_
 refine mb2 _ rfl rfl (fun hb => (zbR zev rfl)) (fun _ => trivial) ?_
 refine mb2 _ rfl rfl (fun hb => (zbY Tryz.underlying3 rfl (by first | rfl | assumption))) (fun _ => ⟨rfl, trivial⟩) ?_
 refine mb2 _ rfl rfl (fun hb => zbD) (fun _ => trivial) ?_
 refine zac (a_or (by first | exact id | (simp; done) | grind)) rfl rfl ?_
 refine zab ?_
 refine zae ?_
 refine zan _ rfl (fun h => ?_) (fun h => ?_)
 ·have h5 : port < 0 ∨ 65535 < port := by simpa using h
  rw [if_pos h5] at hE
  subst hE
  refine zaa ?_
  refine tx ?_
  refine yA ?_
  refine zab ?_
  refine zah (zar ?_)
  refine yT ?_ ?_
  ·exact rfl
  ·exact trivial
 have h5 : ¬ (port < 0 ∨ 65535 < port) := by simp at h; omega
 clear h
 rw [if_neg h5] at hE
 refine zad (zaa (zaa ?_))
 refine tx ?_
 refine yF zaC ?_
 refine yL Tryz.underlying22 ?_
 refine yP (zbi Tryz.underlying22) ?_
 refine yP zbD ?_
 refine zab ?_
 refine zae ?_
 refine zan _ rfl (fun h => ?_) (fun h => ?_)
 ·have h6 : 6 < l.length := by simp at h; omega
  rw [if_pos h6] at hE
  subst hE
  refine zaa ?_
  refine tx ?_
  refine yA ?_
  refine zab ?_
  refine zah (zar ?_)
  refine yT ?_ ?_
  ·exact rfl
  ·exact trivial
 have h6 : ¬ 6 < l.length := by simp at h; omega
 clear h
 rw [if_neg h6] at hE
 refine zad (zaa ?_)
 refine tx ?_
 refine zag (a_makeMap 34) rfl rfl ⟨rfl, trivial⟩ ?_
 refine yP (zao (r := .mp _)) ?_
 refine zab ?_
 refine zaa ?_
 refine tx ?_
 refine yA ?_
 refine zab ?_
 refine zaa (zaa ?_)
 refine tx ?_
 refine yF zaC ?_
 refine yL Tryz.underlying22 ?_
 refine yP (zbi Tryz.underlying22) ?_
 refine yM ?_
 refine zab ?_
 refine zaj ?_
 refine zaK (fun m st => ∃ i : Nat, m + i = l.length ∧ (∀ j, j < i → zdo key l j = 0) ∧ st = St.of [(1, .ref 1 0), (3, .mp 34), (4, .p (.v (.string (lastP l i)))), (36, .p (.sl l.length 5 (l.flatMap PE.pv))), (37, .p (.v (.int .i64 l.length))), (38, .p (.v (.int .i64 i)))] [(1, .box 24 (cfC key port l.length (l.flatMap PE.pv))), (34, .map (netE (zcs l i)))]) l.length ?_ ?_
 ·refine ⟨_, zaF id _ _ ?_ ?_ rfl, 0, by omega, by omega, rfl⟩
  ·(repeat (first | exact trivial | (refine ⟨⟨(by first | rfl | (simp; done) | (simp; omega)), rfl⟩, ?_⟩)))
  ·exact ⟨⟨rfl, rfl⟩, ⟨rfl, rfl⟩, trivial⟩
 rintro m st ⟨i, hi, hf, rfl⟩
 refine zaa ?_
 refine tx ?_
 refine yP za4 ?_
 refine zab ?_
 refine zaa ?_
 refine zan _ rfl (fun h => ?_) (fun h => ?_)
 ·have hlt : i < l.length := by simp at h; omega
  clear h
  obtain ⟨p, hp⟩ : ∃ p, l[i]? = some p := ⟨l[i], List.getElem?_eq_getElem hlt⟩
  have hch := zaV (f := PE.pv) (k := 5) (fun _ => rfl) hp
  have hle := zaS (f := PE.pv) (k := 5) (fun _ => rfl) hlt
  obtain ⟨hok, hpl⟩ := ok p (List.mem_of_getElem? hp)
  have hC := refPeer_s p hok
  have hhit := @zfE (zdo key l) i l.length hf hlt
  have hst : zdo key l i = if peE p ≠ 0 then peE p else if (0 < i ∧ leK p.key (peG l (i - 1)).key = true) ∨ p.key = key then 6 else if dupN (zcs l i) p.nets = true then 6 else 0 := by unfold zdo; rw [zce hp]
  have hgood := @zfa p
  have hnx := zeL hp
  have hlN : lastP l (i + 1) = p.key := by unfold lastP; rw [if_neg (by omega), Nat.add_sub_cancel, zce hp]
  generalize hL : l.flatMap PE.pv = L at *
  generalize peE p = e at *
  refine zad (zaa (zaj (zaa ?_)))
  refine tx ?_
  refine zac (zax Tryz.underlying22 sz60 (by omega) (by omega) rfl) rfl rfl ?_
  refine zac (zaN Tryz.underlying60 rfl sz60 (by first | omega | (simp; done) | (simp; omega)) (hch)) rfl rfl ?_
  refine zag (zaA 6 zr60 rfl) rfl rfl ⟨rfl, trivial⟩ ?_
  refine zag (zas (Y := .agg p.cells) sz60 rfl rfl (Nat.eq_of_beq_eq_true rfl)) rfl rfl ⟨rfl, trivial⟩ ?_
  refine zab ?_
  refine zaa (zaa ?_)
  refine tx ?_
  refine zag (zb4 Tryz.underlying60 rfl sz60 (by first | exact Nat.le_of_ble_eq_true rfl | omega | (simp only [AV.cells, List.length_map]; omega)) (show _ = p.cells from rfl)) rfl rfl ⟨rfl, trivial⟩ ?_
  refine cS (fun n => 43 + 1000 * n) (hC) Tryz.func56 ?_
  refine yA ?_
  refine zab ?_
  refine zaa ?_
  refine tx ?_
  refine yM ?_
  refine yP zbX ?_
  refine zab ?_
  refine zae ?_
  refine zan _ rfl (fun h => ?_) (fun h => ?_)
  ·have h7 : e ≠ 0 := by simpa using h
   rw [if_pos h7] at hst
   rw [hhit (by rw [hst]; exact h7), hst] at hE
   subst hE
   refine zaa ?_
   refine tx ?_
   refine yM ?_
   refine yA ?_
   refine zab ?_
   refine zah (zar (zaR (zar (zar (zaR (zar ?_))))))
   refine yT ?_ ?_
   ·exact rfl
   ·exact trivial
  have h7 : e = 0 := by simpa using h
  clear h
  rw [if_neg (by simp [h7])] at hst
  obtain ⟨hn8, hkey⟩ := hgood h7
  have hkne : p.key ≠ ⟨#[]⟩ := fun e => key_ne' (by rw [e] at hkey; exact hkey)
  simp only [← lastP_le l i p.key hkne] at hst
  generalize hLK : lastP l i = lk at *
  by_cases hlk : leK p.key lk = true
  ·rw [if_pos (.inl hlk)] at hst
   rw [hhit (by rw [hst]; decide), hst] at hE
   subst hE
   refine zad (zaa (zaa ?_))
   refine tx ?_
   refine yF zby ?_
   refine yL Tryz.underlying9 ?_
   refine yM ?_
   refine yP (zeT (c := true) (hlk)) ?_
   refine yM ?_
   refine yS ?_
   refine yS ?_
   refine yS ?_
   refine yS ?_
   refine yS ?_
   refine yP zam ?_
   refine zab ?_
   refine zae ?_
   refine zat rfl ?_
   refine zaa ?_
   refine tx ?_
   refine yA ?_
   refine zab ?_
   refine zah (zar (zaR (zar (zar (zaR (zar ?_))))))
   refine yT ?_ ?_
   ·exact rfl
   ·exact trivial
  by_cases hkk : p.key = key
  ·rw [if_pos (.inr hkk)] at hst
   rw [hhit (by rw [hst]; decide), hst] at hE
   subst hE
   refine zad (zaa (zaa ?_))
   refine tx ?_
   refine yF zby ?_
   refine yL Tryz.underlying9 ?_
   refine yM ?_
   refine zac (zeT (c := false) (by simpa using hlk)) rfl rfl ?_
   refine yM ?_
   refine yF zby ?_
   refine yL Tryz.underlying9 ?_
   refine yF zbz ?_
   refine yL Tryz.underlying9 ?_
   refine yP (zaz (c := true) (decide_eq_true hkk)) ?_
   refine yP zai ?_
   refine zab ?_
   refine zae ?_
   refine zat rfl ?_
   refine zaa ?_
   refine tx ?_
   refine yA ?_
   refine zab ?_
   refine zah (zar (zaR (zar (zar (zaR (zar ?_))))))
   refine yT ?_ ?_
   ·exact rfl
   ·exact trivial
  rw [if_neg (by simp [hlk, hkk])] at hst
  refine zad (zaa (zaa ?_))
  refine tx ?_
  refine yF zby ?_
  refine yL Tryz.underlying9 ?_
  refine yM ?_
  refine zac (zeT (c := false) (by simpa using hlk)) rfl rfl ?_
  refine yM ?_
  refine yF zby ?_
  refine yL Tryz.underlying9 ?_
  refine yF zbz ?_
  refine yL Tryz.underlying9 ?_
  refine yP (zaz (c := false) (decide_eq_false hkk)) ?_
  refine yP zai ?_
  refine zab ?_
  refine zae ?_
  refine zaf rfl ?_
  obtain ⟨DD, hDD⟩ : ∃ b, dupN (zcs l i) p.nets = b := ⟨_, rfl⟩
  rw [hDD] at hst
  refine zad (zaa ?_)
  refine tx ?_
  refine yF zby ?_
  refine yL Tryz.underlying9 ?_
  refine yA ?_
  refine zab ?_
  refine zaa ?_
  refine tx ?_
  refine yF zbc ?_
  refine yL Tryz.underlying58 ?_
  refine yP (zbi Tryz.underlying58) ?_
  refine yM ?_
  refine zab ?_
  refine zaj ?_
  refine zaK (fun m' st => ∃ j : Nat, m' + j = p.nets.length ∧ ∃ X : List NtP, DD = dupN X (p.nets.drop j) ∧ X = zcs l i ++ p.nets.take j ∧ st = St.of [(1, .ref 1 0), (3, .mp 34), (4, .p (.v (.string p.key))), (36, .p (.sl l.length 5 L)), (37, .p (.v (.int .i64 l.length))), (38, .p (.v (.int .i64 i))), (61, .p (.sl p.nets.length 2 (p.nets.flatMap ntC))), (62, .p (.v (.int .i64 p.nets.length))), (63, .p (.v (.int .i64 j)))] [(1, .box 24 (cfC key port l.length L)), (34, .map (netE X))]) p.nets.length ?_ ?_
  ·refine ⟨_, zaF id _ _ ?_ ?_ rfl, 0, by omega, zcs l i, by rw [List.drop_zero]; exact hDD.symm, by simp, rfl⟩
   ·(repeat (first | exact trivial | (refine ⟨⟨(by first | rfl | (simp; done) | (simp; omega)), rfl⟩, ?_⟩)))
   ·exact ⟨⟨rfl, rfl⟩, ⟨rfl, rfl⟩, trivial⟩
  rintro m' st ⟨j, hj, X, hdp, hXe, rfl⟩
  refine zaa ?_
  refine tx ?_
  refine yP za4 ?_
  refine zab ?_
  refine zaa ?_
  refine zan _ rfl (fun h => ?_) (fun h => ?_)
  ·have hlj : j < p.nets.length := by simp at h; omega
   clear h
   obtain ⟨q, hq⟩ : ∃ q, p.nets[j]? = some q := ⟨p.nets[j], List.getElem?_eq_getElem hlj⟩
   have hch2 := zaV (f := ntC) (k := 2) (fun _ => rfl) hq
   have hle2 := zaS (f := ntC) (k := 2) (fun _ => rfl) hlj
   have hdr : p.nets.drop j = q :: p.nets.drop (j + 1) := by
    obtain ⟨q1, q2⟩ := List.getElem?_eq_some_iff.1 hq
    rw [List.drop_eq_getElem_cons q1, q2]
   have htk : p.nets.take (j + 1) = p.nets.take j ++ [q] := by
    obtain ⟨q1, q2⟩ := List.getElem?_eq_some_iff.1 hq
    rw [List.take_succ_eq_append_getElem q1, q2]
   rw [hdr, dupN] at hdp
   obtain ⟨qa, qb⟩ := q
   have hpush := netE_push X (qa, qb)
   have hgot := atN_got (qa, qb) X 0
   generalize hNL : p.nets.flatMap ntC = NL at *
   refine zad (zaa (zaj (zaa ?_)))
   refine tx ?_
   refine zac (zax Tryz.underlying58 sz27 (by omega) (by omega) rfl) rfl rfl ?_
   refine zac (zaN Tryz.underlying27 rfl sz27 (by first | omega | (simp; done) | (simp; omega)) (hch2)) rfl rfl ?_
   refine zag (zaA 9 zr27 rfl) rfl rfl ⟨rfl, trivial⟩ ?_
   refine zag (zas (Y := .agg [.p (.v (.int .u32 qa)), .p (.v (.int .i64 qb))]) sz27 rfl rfl (Nat.eq_of_beq_eq_true rfl)) rfl rfl ⟨rfl, trivial⟩ ?_
   refine zab ?_
   by_cases hm : (qa, qb) ∈ X
   ·rw [show (decide ((qa, qb) ∈ X) || dupN (X ++ [(qa, qb)]) (p.nets.drop (j + 1))) = true by simp [hm]] at hdp
    rw [if_pos hdp] at hst
    rw [hhit (by rw [hst]; decide), hst] at hE
    subst hE
    rw [decide_eq_true hm] at hgot
    refine zaa (zaa ?_)
    refine tx ?_
    refine yP (zal (r := .mp _)) ?_
    refine lN Tryz.underlying27 rfl sz27 rfl rfl ⟨rfl, trivial⟩ ?_
    refine zag (a_lookupF Tryz.underlying88 (netX (qa, qb)) (netCK _) zr4 (netFK (qa, qb) X) hgot rfl) rfl rfl ⟨rfl, trivial⟩ ?_
    refine zab ?_
    refine zae ?_
    refine zat rfl ?_
    refine zaa ?_
    refine tx ?_
    refine yA ?_
    refine zab ?_
    (repeat (first | refine zaa ?_ | refine zaj ?_ | refine zad ?_ | refine zah ?_ | refine zaE ?_ | refine zae ?_ | refine zar ?_ | refine zbZ ?_ | refine zba ?_ | refine zaR ?_ | refine zc8 ?_ | refine inb_y rfl ?_))
    refine yT ?_ ?_
    ·exact rfl
    ·exact trivial
   ·rw [show (decide ((qa, qb) ∈ X) || dupN (X ++ [(qa, qb)]) (p.nets.drop (j + 1))) = dupN (X ++ [(qa, qb)]) (p.nets.drop (j + 1)) by simp [hm]] at hdp
    rw [decide_eq_false hm] at hgot
    refine zaa (zaa ?_)
    refine tx ?_
    refine yP (zal (r := .mp _)) ?_
    refine lN Tryz.underlying27 rfl sz27 rfl rfl ⟨rfl, trivial⟩ ?_
    refine zag (a_lookupF Tryz.underlying88 (netX (qa, qb)) (netCK _) zr4 (netFK (qa, qb) X) hgot rfl) rfl rfl ⟨rfl, trivial⟩ ?_
    refine zab ?_
    refine zae ?_
    refine zaf rfl ?_
    refine zad (zae ?_)
    refine tx ?_
    refine yP (zal (r := .mp _)) ?_
    refine lN Tryz.underlying27 rfl sz27 rfl rfl ⟨rfl, trivial⟩ ?_
    refine zag (a_mapUpdateF Tryz.underlying88 (netX (qa, qb)) (netCK _) (netFN hm)) rfl rfl ⟨rfl, trivial⟩ ?_
    refine zab ?_
    refine zba (zae ?_)
    refine tx ?_
    refine zac (za1 (by first | exact IntWalk.i64_in _ (by omega) | rfl)) rfl rfl ?_
    refine yM ?_
    refine zab ?_
    refine zae ?_
    refine ⟨m' - 1, by omega, _, zaF id _ _ ?_ ?_ rfl, j + 1, by omega, X ++ [(qa, qb)], hdp, by rw [htk, ← List.append_assoc, hXe], rfl⟩
    ·(repeat (first | exact trivial | (refine ⟨⟨(by first | rfl | (simp; done) | (simp; omega)), rfl⟩, ?_⟩)))
    ·exact ⟨⟨rfl, rfl⟩, ⟨congrArg (fun x => Slot.live (AObj.map x)) hpush, rfl⟩, trivial⟩
  have hge : j = p.nets.length := by simp at h; omega
  clear h
  subst hge
  rw [List.take_length] at hXe
  have hz : dupN X (p.nets.drop p.nets.length) = false := by rw [List.drop_length]; rfl
  rw [hz] at hdp
  rw [if_neg (by rw [hdp]; decide)] at hst
  refine zaE (zbZ (zbZ (zc8 (zba (zae ?_)))))
  refine tx ?_
  refine zac (za1 (by first | exact IntWalk.i64_in _ (by omega) | rfl)) rfl rfl ?_
  refine yM ?_
  refine zab ?_
  refine zae ?_
  refine ⟨m - 1, by omega, _, zaF id _ _ ?_ ?_ rfl, i + 1, by omega, fun q hq => ?_, rfl⟩
  ·refine ⟨⟨rfl, rfl⟩, ⟨rfl, rfl⟩, ⟨?_, rfl⟩, ⟨rfl, rfl⟩, ⟨rfl, rfl⟩, ⟨rfl, rfl⟩, trivial⟩
   rw [hlN]
   rfl
  ·refine ⟨⟨rfl, rfl⟩, ⟨?_, rfl⟩, trivial⟩
   rw [hnx, ← hXe]
   rfl
  ·by_cases eq : q = i
   ·rw [eq]; exact hst
   ·exact hf q (by omega)
 have hge : i = l.length := by simp at h; omega
 clear h
 subst hge
 rw [zf5 hf] at hE
 subst hE
 refine zaE (zaa ?_)
 refine tx ?_
 refine yA ?_
 refine zab ?_
 refine zah ?_
 refine yT ?_ ?_
 ·exact rfl
 ·exact trivial
end Go.Proofs.YtkdfdcodkeclmaaGreatDoor
