/- The reference's ConfFault, over data. -/
import Derived.Test.YtkdfdcodkeclmaaGreatDoorSCf3
import Derived.Test.YtkdfdcodkeclmaaGreatDoorSMq
namespace Go.Proofs.YtkdfdcodkeclmaaGreatDoor
open Tryz
open Go.RowKit Go.Sort
set_option linter.unusedVariables false
set_option linter.unusedSimpArgs false
set_option maxRecDepth 100000
theorem key_ne' : ¬ keyE ⟨#[]⟩ = 0 := by decide +kernel
def lastP (l : List PE) (i : Nat) : ByteArray := if i = 0 then ⟨#[]⟩ else (peG l (i - 1)).key
theorem lastP_le (l : List PE) (i : Nat) (k : ByteArray) (hk : k ≠ ⟨#[]⟩) : leK k (lastP l i) = true ↔ (0 < i ∧ leK k (peG l (i - 1)).key = true) := by
 unfold lastP
 by_cases h : i = 0
 ·rw [if_pos h]
  constructor
  ·intro h1
   unfold leK at h1
   rw [sLt_empty] at h1
   simp at h1
   exact absurd h1 hk
  ·rintro ⟨h1, _⟩
   omega
 ·rw [if_neg h]
  constructor
  ·exact fun h1 => ⟨qO, h1⟩
  ·exact fun h1 => h1.2
theorem netE_push (X : List NtP) (q : NtP) : netE X ++ [(netK q, Value.bool true)] = netE (X ++ [q]) := by simp [netE]
set_option maxHeartbeats 8000000 in
theorem zbk (c : CF) (ok : c.OK) : Fn prog 24 [.agg c.cells] (.p (.v (.int .i64 (cfE c)))) [] := by
 obtain ⟨key, port, l⟩ := c
 obtain ⟨hn, ok⟩ := ok
 dsimp only at hn ok
 obtain ⟨E, hE⟩ : ∃ E, cfE ⟨key, port, l⟩ = E := ⟨_, rfl⟩
 rw [hE]
 unfold cfE at hE
 dsimp only at hE
 have hK := zcF key
 show Fn prog _ [.agg (cfC key port l.length (l.flatMap PE.pv))] _ _
 generalize keyE key = k1 at *
 refine zaw F24 rfl (qE rfl) fun w0 A => zaa<| tx<| wG (zaK (X := .agg _) 1 rfl) rfl<| wA rfl<| zab ?_
 by_cases hk : key ≠ ⟨#[]⟩ ∧ k1 ≠ 0
 ·rw [if_pos hk] at hE
  subst hE
  refine zaa<| zaa<| tx<| wF zbD rfl<| wL U9 rfl<| wP (zay (c := true) (by simp [hk.1])) rfl ?_
  refine wM rfl<| wF zbD rfl<| wL U9 rfl ?_
  (first | refine wS rfl ?_ | refine yV (fun n => 16 + 1000 * n) (hK) F55 ?_)
  refine wP (zaT (c := true) (by simp [hk.2])) rfl ?_
  refine wP zao rfl<| zab<| zaf<| zax rfl<| zaa<| tx<| wF zbD rfl<| wL U9 rfl<| yV (fun n => 21 + 1000 * n) (hK) F55 ?_
  refine wA rfl<| zab<| zai<| zau<| yT ?_ ?_
  ·exact rfl
  ·exact trivial
 rw [if_neg hk] at hE
 refine zaa<| zaa<| awp_joinS (St.of [(1, .ref 1 0)] [(1, .box 24 (cfC key port l.length (l.flatMap PE.pv)))]) ?_ ?_
 ·by_cases hk0 : key = ⟨#[]⟩
  ·skip
   refine tx<| wF zbD rfl<| wL U9 rfl<| wP (zay (c := false) (by simp [hk0])) rfl ?_
   refine wM rfl<| wS rfl<| wS rfl<| wS rfl<| wS rfl<| wP zaj rfl<| zab<| zaf<| zag rfl<| zae<| zaf ?_
   exact zaJ id _ _ (by repeat (first | exact trivial | refine ⟨⟨rfl, rfl⟩, ?_⟩)) (by repeat (first | exact trivial | refine ⟨⟨rfl, rfl⟩, ?_⟩)) rfl
  ·have hk1 : k1 = 0 := Decidable.not_not.1 fun e => hk ⟨hk0, e⟩
   skip
   refine tx<| wF zbD rfl<| wL U9 rfl<| wP (zay (c := true) (by simp [hk0])) rfl ?_
   refine wM rfl<| wF zbD rfl<| wL U9 rfl ?_
   (first | refine wS rfl ?_ | refine yV (fun n => 16 + 1000 * n) (hK) F55 ?_)
   refine wP (zaT (c := false) (by simp [hk1])) rfl ?_
   refine wP zao rfl<| zab<| zaf<| zag rfl<| zae<| zaf ?_
   exact zaJ id _ _ (by repeat (first | exact trivial | refine ⟨⟨rfl, rfl⟩, ?_⟩)) (by repeat (first | exact trivial | refine ⟨⟨rfl, rfl⟩, ?_⟩)) rfl
 clear hk hK
 refine zaa<| zaa<| tx<| wF zew rfl<| wL U3 rfl<| wP za8 rfl<| wM rfl<| mb2 _ rfl rfl (fun hb => (zbW zew rfl)) (fun _ => trivial) ?_
 refine mb2 _ rfl rfl (fun hb => (zb2 U3 rfl (by first | rfl | assumption))) (fun _ => ⟨rfl, trivial⟩) ?_
 refine mb2 _ rfl rfl (fun hb => zbA) (fun _ => trivial) ?_
 refine wP (a_or (by first | exact id | (simp; done) | grind)) rfl ?_
 refine zab<| zaf<| zaq _ rfl (fun h => ?_) (fun h => ?_)
 ·have h5 : port < 0 ∨ 65535 < port := by simpa using h
  rw [if_pos h5] at hE
  subst hE
  refine zaa<| tx<| wA rfl<| zab<| zai<| zau<| yT ?_ ?_
  ·exact rfl
  ·exact trivial
 have h5 : ¬ (port < 0 ∨ 65535 < port) := by simp at h; omega
 clear h
 rw [if_neg h5] at hE
 refine zae<| zaa<| zaa<| tx<| wF zaH rfl<| wL U22 rfl<| wP (zbf U22) rfl<| wP zbA rfl<| zab<| zaf<| zaq _ rfl (fun h => ?_) (fun h => ?_)
 ·have h6 : 6 < l.length := by simp at h; omega
  rw [if_pos h6] at hE
  subst hE
  refine zaa<| tx<| wA rfl<| zab<| zai<| zau<| yT ?_ ?_
  ·exact rfl
  ·exact trivial
 have h6 : ¬ 6 < l.length := by simp at h; omega
 clear h
 rw [if_neg h6] at hE
 refine zae<| zaa<| tx<| wG (a_makeMap 34) rfl<| wP (zas (r := .mp _)) rfl<| zab<| zaa<| tx<| wA rfl<| zab<| zaa<| zaa<| tx<| wF zaH rfl<| wL U22 rfl<| wP (zbf U22) rfl<| wM rfl<| zab<| zak<| zaN (fun m st => ∃ i : Nat, m + i = l.length ∧ (∀ j, j < i → zdq key l j = 0) ∧ st = St.of [(1, .ref 1 0), (3, .mp 34), (4, .p (.v (.string (lastP l i)))), (36, .p (.sl l.length 5 (l.flatMap PE.pv))), (37, .p (.v (.int .i64 l.length))), (38, .p (.v (.int .i64 i)))] [(1, .box 24 (cfC key port l.length (l.flatMap PE.pv))), (34, .map (netE (zcx l i)))]) l.length ?_ ?_
 ·refine ⟨_, zaJ id _ _ ?_ ?_ rfl, 0, qO, qO, rfl⟩
  ·(repeat (first | exact trivial | (refine ⟨⟨(by first | rfl | (simp; done) | (simp; omega)), rfl⟩, ?_⟩)))
  ·exact ⟨⟨rfl, rfl⟩, ⟨rfl, rfl⟩, trivial⟩
 rintro m st ⟨i, hi, hf, rfl⟩
 refine zaa<| tx<| wP za8 rfl<| zab<| zaa<| zaq _ rfl (fun h => ?_) (fun h => ?_)
 ·have hlt : i < l.length := by simp at h; omega
  clear h
  obtain ⟨p, hp⟩ : ∃ p, l[i]? = some p := ⟨l[i], List.getElem?_eq_getElem hlt⟩
  have hch := zaX (f := PE.pv) (k := 5) (fun _ => rfl) hp
  have hle := zaV (f := PE.pv) (k := 5) (fun _ => rfl) hlt
  obtain ⟨hok, hpl⟩ := ok p (List.mem_of_getElem? hp)
  have hC := refPeer_s p hok
  have hhit := @zfG (zdq key l) i l.length hf hlt
  have hst : zdq key l i = if peE p ≠ 0 then peE p else if (0 < i ∧ leK p.key (peG l (i - 1)).key = true) ∨ p.key = key then 6 else if dupN (zcx l i) p.nets = true then 6 else 0 := by unfold zdq; rw [zcj hp]
  have hgood := @zfb p
  have hnx := zeN hp
  have hlN : lastP l (i + 1) = p.key := by unfold lastP; rw [if_neg (by omega), Nat.add_sub_cancel, zcj hp]
  generalize hL : l.flatMap PE.pv = L at *
  generalize peE p = e at *
  refine zae<| zaa<| zak<| zaa<| tx<| wP (zaA U22 sz60 qO qO rfl) rfl<| wP (zaS U60 rfl sz60 (by first | omega | (simp; done) | (simp; omega)) (hch)) rfl ?_
  refine wG (zaF 6 zr60 rfl) rfl<| wG (zar (Y := .agg p.cells) sz60 rfl rfl (Nat.eq_of_beq_eq_true rfl)) rfl<| zab<| zaa<| zaa<| tx<| wG (zb8 U60 rfl sz60 (by first | exact Nat.le_of_ble_eq_true rfl | omega | (simp only [AV.cells, List.length_map]; omega)) (show _ = p.cells from rfl)) rfl ?_
  refine cS (fun n => 43 + 1000 * n) (hC) func56 ?_
  refine wA rfl<| zab<| zaa<| tx<| wM rfl<| wP zbR rfl<| zab<| zaf<| zaq _ rfl (fun h => ?_) (fun h => ?_)
  ·have h7 : e ≠ 0 := by simpa using h
   rw [if_pos h7] at hst
   rw [hhit (by rw [hst]; exact h7), hst] at hE
   subst hE
   refine zaa<| tx<| wM rfl<| wA rfl<| zab<| zai<| zau<| zaU<| zau<| zau<| zaU<| zau<| yT ?_ ?_
   ·exact rfl
   ·exact trivial
  have h7 : e = 0 := by simpa using h
  clear h
  rw [if_neg (by simp [h7])] at hst
  obtain ⟨hn8, hkey⟩ := hgood h7
  have hkne : p.key ≠ ⟨#[]⟩ := fun e => key_ne' (by rw [e] at hkey; exact hkey)
  simp only [← lastP_le l i p.key hkne] at hst
  generalize hLK : lastP l i = lk at *
  by_cases hlk : leK p.key lk = true
  ·rw [if_pos (.inl hlk)] at hst
   rw [hhit (by rw [hst]; decide), hst] at hE
   subst hE
   refine zae<| zaa<| zaa<| tx<| wF zbC rfl<| wL U9 rfl<| wM rfl<| wP (zeV (c := true) (hlk)) rfl<| wM rfl<| wS rfl<| wS rfl<| wS rfl<| wS rfl<| wS rfl<| wP zao rfl<| zab<| zaf<| zax rfl<| zaa<| tx<| wA rfl<| zab<| zai<| zau<| zaU<| zau<| zau<| zaU<| zau ?_
   refine yT ?_ ?_
   ·exact rfl
   ·exact trivial
  by_cases hkk : p.key = key
  ·rw [if_pos (.inr hkk)] at hst
   rw [hhit (by rw [hst]; decide), hst] at hE
   subst hE
   refine zae<| zaa<| zaa<| tx<| wF zbC rfl<| wL U9 rfl<| wM rfl<| wP (zeV (c := false) (by simpa using hlk)) rfl ?_
   refine wM rfl<| wF zbC rfl<| wL U9 rfl<| wF zbD rfl<| wL U9 rfl<| wP (zaE (c := true) (decide_eq_true hkk)) rfl<| wP zaj rfl<| zab<| zaf<| zax rfl<| zaa<| tx<| wA rfl<| zab<| zai<| zau<| zaU<| zau<| zau<| zaU<| zau<| yT ?_ ?_
   ·exact rfl
   ·exact trivial
  rw [if_neg (by simp [hlk, hkk])] at hst
  refine zae<| zaa<| zaa<| tx<| wF zbC rfl<| wL U9 rfl<| wM rfl<| wP (zeV (c := false) (by simpa using hlk)) rfl ?_
  refine wM rfl<| wF zbC rfl<| wL U9 rfl<| wF zbD rfl<| wL U9 rfl<| wP (zaE (c := false) (decide_eq_false hkk)) rfl<| wP zaj rfl<| zab<| zaf<| zag rfl ?_
  obtain ⟨DD, hDD⟩ : ∃ b, dupN (zcx l i) p.nets = b := ⟨_, rfl⟩
  rw [hDD] at hst
  refine zae<| zaa<| tx<| wF zbC rfl<| wL U9 rfl<| wA rfl<| zab<| zaa<| tx<| wF zbh rfl<| wL U58 rfl<| wP (zbf U58) rfl<| wM rfl<| zab<| zak<| zaN (fun m' st => ∃ j : Nat, m' + j = p.nets.length ∧ ∃ X : List NtP, DD = dupN X (p.nets.drop j) ∧ X = zcx l i ++ p.nets.take j ∧ st = St.of [(1, .ref 1 0), (3, .mp 34), (4, .p (.v (.string p.key))), (36, .p (.sl l.length 5 L)), (37, .p (.v (.int .i64 l.length))), (38, .p (.v (.int .i64 i))), (61, .p (.sl p.nets.length 2 (p.nets.flatMap ntC))), (62, .p (.v (.int .i64 p.nets.length))), (63, .p (.v (.int .i64 j)))] [(1, .box 24 (cfC key port l.length L)), (34, .map (netE X))]) p.nets.length ?_ ?_
  ·refine ⟨_, zaJ id _ _ ?_ ?_ rfl, 0, by omega, zcx l i, by rw [List.drop_zero]; exact hDD.symm, by simp, rfl⟩
   ·(repeat (first | exact trivial | (refine ⟨⟨(by first | rfl | (simp; done) | (simp; omega)), rfl⟩, ?_⟩)))
   ·exact ⟨⟨rfl, rfl⟩, ⟨rfl, rfl⟩, trivial⟩
  rintro m' st ⟨j, hj, X, hdp, hXe, rfl⟩
  refine zaa<| tx<| wP za8 rfl<| zab<| zaa<| zaq _ rfl (fun h => ?_) (fun h => ?_)
  ·have hlj : j < p.nets.length := by simp at h; omega
   clear h
   obtain ⟨q, hq⟩ : ∃ q, p.nets[j]? = some q := ⟨p.nets[j], List.getElem?_eq_getElem hlj⟩
   have hch2 := zaX (f := ntC) (k := 2) (fun _ => rfl) hq
   have hle2 := zaV (f := ntC) (k := 2) (fun _ => rfl) hlj
   have hdr : p.nets.drop j = q :: p.nets.drop (j + 1) := by
    obtain ⟨q1, q2⟩ := List.getElem?_eq_some_iff.1 hq
    rw [List.drop_eq_getElem_cons q1, q2]
   have htk : p.nets.take (j + 1) = p.nets.take j ++ [q] := by
    obtain ⟨q1, q2⟩ := List.getElem?_eq_some_iff.1 hq
    rw [List.take_succ_eq_append_getElem q1, q2]
   rw [hdr, dupN] at hdp
   obtain ⟨qa, qb⟩ := q
   have hpush := netE_push X (qa, qb)
   have hgot := atN_got (qa, qb) X 0
   generalize hNL : p.nets.flatMap ntC = NL at *
   refine zae<| zaa<| zak<| zaa<| tx<| wP (zaA U58 sz27 qO qO rfl) rfl<| wP (zaS U27 rfl sz27 (by first | omega | (simp; done) | (simp; omega)) (hch2)) rfl ?_
   refine wG (zaF 9 zr27 rfl) rfl<| wG (zar (Y := .agg [.p (.v (.int .u32 qa)), .p (.v (.int .i64 qb))]) sz27 rfl rfl (Nat.eq_of_beq_eq_true rfl)) rfl<| zab ?_
   by_cases hm : (qa, qb) ∈ X
   ·rw [show (decide ((qa, qb) ∈ X) || dupN (X ++ [(qa, qb)]) (p.nets.drop (j + 1))) = true by simp [hm]] at hdp
    rw [if_pos hdp] at hst
    rw [hhit (by rw [hst]; decide), hst] at hE
    subst hE
    rw [decide_eq_true hm] at hgot
    refine zaa<| zaa<| tx<| wP (zam (r := .mp _)) rfl<| wN U27 sz27 rfl ?_
    refine wG (a_lookupF underlying88 (netX (qa, qb)) (netCK _) zr4 (netFK (qa, qb) X) hgot rfl) rfl<| zab<| zaf<| zax rfl<| zaa<| tx<| wA rfl<| zab ?_
    (repeat (first | refine zaa ?_ | refine zak ?_ | refine zae ?_ | refine zai ?_ | refine zaI ?_ | refine zaf ?_ | refine zau ?_ | refine zb3 ?_ | refine zbb ?_ | refine zaU ?_ | refine zda ?_ | refine inb_y rfl ?_))
    refine yT ?_ ?_
    ·exact rfl
    ·exact trivial
   ·rw [show (decide ((qa, qb) ∈ X) || dupN (X ++ [(qa, qb)]) (p.nets.drop (j + 1))) = dupN (X ++ [(qa, qb)]) (p.nets.drop (j + 1)) by simp [hm]] at hdp
    rw [decide_eq_false hm] at hgot
    refine zaa<| zaa<| tx<| wP (zam (r := .mp _)) rfl<| wN U27 sz27 rfl ?_
    refine wG (a_lookupF underlying88 (netX (qa, qb)) (netCK _) zr4 (netFK (qa, qb) X) hgot rfl) rfl<| zab<| zaf<| zag rfl<| zae<| zaf<| tx<| wP (zam (r := .mp _)) rfl<| wN U27 sz27 rfl ?_
    refine wG (a_mapUpdateF underlying88 (netX (qa, qb)) (netCK _) (netFN hm)) rfl<| zab<| zbb<| zaf<| tx<| wP (za5 (by first | exact IntWalk.i64_in _ (by omega) | rfl)) rfl ?_
    refine wM rfl<| zab<| zaf ?_
    refine ⟨m' - 1, by omega, _, zaJ id _ _ ?_ ?_ rfl, j + 1, by omega, X ++ [(qa, qb)], hdp, by rw [htk, ← List.append_assoc, hXe], rfl⟩
    ·(repeat (first | exact trivial | (refine ⟨⟨(by first | rfl | (simp; done) | (simp; omega)), rfl⟩, ?_⟩)))
    ·exact ⟨⟨rfl, rfl⟩, ⟨congrArg (fun x => Slot.live (AObj.map x)) hpush, rfl⟩, trivial⟩
  have hge : j = p.nets.length := by simp at h; omega
  clear h
  subst hge
  rw [List.take_length] at hXe
  have hz : dupN X (p.nets.drop p.nets.length) = false := by rw [List.drop_length]; rfl
  rw [hz] at hdp
  rw [if_neg (by rw [hdp]; decide)] at hst
  refine zaI<| zb3<| zb3<| zda<| zbb<| zaf<| tx<| wP (za5 (by first | exact IntWalk.i64_in _ (by omega) | rfl)) rfl ?_
  refine wM rfl<| zab<| zaf<| ⟨m - 1, qO, _, zaJ id _ _ ?_ ?_ rfl, i + 1, qO, fun q hq => ?_, rfl⟩
  ·refine ⟨⟨rfl, rfl⟩, ⟨rfl, rfl⟩, ⟨?_, rfl⟩, ⟨rfl, rfl⟩, ⟨rfl, rfl⟩, ⟨rfl, rfl⟩, trivial⟩
   rw [hlN]
   rfl
  ·refine ⟨⟨rfl, rfl⟩, ⟨?_, rfl⟩, trivial⟩
   rw [hnx, ← hXe]
   rfl
  ·by_cases eq : q = i
   ·rw [eq]; exact hst
   ·exact hf q qO
 have hge : i = l.length := by simp at h; omega
 clear h
 subst hge
 rw [zf6 hf] at hE
 subst hE
 refine zaI<| zaa<| tx<| wA rfl<| zab<| zai<| yT ?_ ?_
 ·exact rfl
 ·exact trivial
end Go.Proofs.YtkdfdcodkeclmaaGreatDoor
