/- The reference's ConfFault, over data. -/
import Derived.Test.YtlfjpippeeikdaaGreatDoorSCf3
import Derived.Test.YtlfjpippeeikdaaGreatDoorSMq
set_option linter.all false
namespace Go.Proofs.YtlfjpippeeikdaaGreatDoor
open Tryz
open Go.RowKit Go.Sort
set_option maxHeartbeats 16000000
set_option maxRecDepth 100000
theorem key_ne' : ¬ keyE ⟨#[]⟩ = 0 := by decide +kernel
def lastP (l : List PE) (i : Nat) : ByteArray := if i = 0 then ⟨#[]⟩ else (peG l (i - 1)).key
theorem lastP_le (l : List PE) (i : Nat) (k : ByteArray) (hk : k ≠ ⟨#[]⟩) : leK k (lastP l i) = true ↔ (0 < i ∧ leK k (peG l (i - 1)).key = true) := by
 unfold lastP
 by_cases h : i = 0
 ·rw [if_pos h]
  constructor
  ·intro h1
   unfold leK at h1
   rw [sLt_empty] at h1
   simp at h1
   exact absurd h1 hk
  ·rintro ⟨h1, _⟩
   omega
 ·rw [if_neg h]
  constructor
  ·exact fun h1 => ⟨qk, h1⟩
  ·exact fun h1 => h1.2
theorem netE_push (X : List NtP) (q : NtP) : netE X ++ [(netK q, Value.bool true)] = netE (X ++ [q]) := by simp [netE]
theorem zaX (c : CF) (ok : c.OK) : Fn prog 46 [.agg c.cells] (qd (cfE c)) [] := by
 obtain ⟨key, port, l⟩ := c
 obtain ⟨hn, ok⟩ := ok
 dsimp only at hn ok
 obtain ⟨E, hE⟩ : ∃ E, cfE ⟨key, port, l⟩ = E := ⟨_, rfl⟩
 rw [hE]
 unfold cfE at hE
 dsimp only at hE
 have hK := zbJ key
 show Fn prog _ [.agg (cfC key port l.length (l.flatMap PE.pv))] _ _
 generalize keyE key = k1 at *
 refine fnI fun w0 A => ?_
 refine G [5] ?_
 by_cases hk : key ≠ ⟨#[]⟩ ∧ k1 ≠ 0
 ·rw [if_pos hk] at hE
  subst hE
  refine G [5] ?_
  refine zaa (a_sneqV (c := true) (by simp [hk.1])) rfl rfl ?_
  refine G [3] ?_
  (first | refine zb4 rfl ?_ | refine zbQ (fun n => 16 + 1000 * n) (hK) rfl rfl func82 rfl rfl qC qC rfl rfl rfl ql rfl rfl rfl ?_)
  refine zaa (a_neqV (c := true) (by simp [hk.2])) rfl rfl ?_
  refine G [7] ?_
  refine cV hK ?_
  refine jdc ?_
  exact yE
 rw [if_neg hk] at hE
 refine G [2] ?_
 refine awp_joinS (St.of [(1, .ref 1 0)] [(1, .box 24 (cfC key port l.length (l.flatMap PE.pv)))]) ?_ ?_
 ·by_cases hk0 : key = ⟨#[]⟩
  ·skip
   refine G [3, 3, 9, 9, 0] ?_
   exact jau
  ·have hk1 : k1 = 0 := qaH.1 fun e => hk ⟨hk0, e⟩
   skip
   refine G [3, 4, 3] ?_
   (first | refine zb4 rfl ?_ | refine zbQ (fun n => 16 + 1000 * n) (hK) rfl rfl func82 rfl rfl qC qC rfl rfl rfl ql rfl rfl rfl ?_)
   refine G [0, 3, 4, 9, 0] ?_
   exact zad id _ _ qp qp rfl
 clear hk hK
 refine G [10, 2, 1, 9, 0] ?_
 refine cX ?_ ?_ <;> intro h
 ·have h5 : port < 0 ∨ 65535 < port := by simpa using h
  exact jb2
 have h5 : ¬ (port < 0 ∨ 65535 < port) := by simp at h; omega
 clear h
 rw [if_neg h5] at hE
 refine G [9, 9, 0] ?_
 refine cX ?_ ?_ <;> intro h
 ·exact jbm
 have h6 : ¬ 6 < l.length := by simp at h; omega
 clear h
 rw [if_neg h6] at hE
 refine G [3] ?_
 refine jdZ (a_makeMap 34) ?_
 refine G [15] ?_
 refine zae (fun m st => ∃ i : Nat, m + i = l.length ∧ (∀ j, j < i → zdJ key l j = 0) ∧ st = St.of [(1, .ref 1 0), (3, .mp 34), (4, qc (lastP l i)), (36, .p (.sl l.length 5 (l.flatMap PE.pv))), (37, qd l.length), (38, qd i)] [(1, .box 24 (cfC key port l.length (l.flatMap PE.pv))), (34, .map (netE (zce l i)))]) l.length ?_ ?_
 ·exact jaR
 rintro m st ⟨i, hi, hf, rfl⟩
 refine G [5] ?_
 refine cX ?_ ?_ <;> intro h
 ·have hlt : i < l.length := by simp at h; omega
  clear h
  obtain ⟨p, hp⟩ : ∃ p, l[i]? = some p := ⟨l[i], List.getElem?_eq_getElem hlt⟩
  have hch := zaj (f := PE.pv) (k := 5) (fun _ => rfl) hp
  have hle := zak (f := PE.pv) (k := 5) (fun _ => rfl) hlt
  obtain ⟨hok, hpl⟩ := ok p (qaE hp)
  have hC := refPeer_s p hok
  have hhit := @zb8 (zdJ key l) i l.length hf hlt
  have hst : zdJ key l i = if peE p ≠ 0 then peE p else if (0 < i ∧ leK p.key (peG l (i - 1)).key = true) ∨ p.key = key then 6 else if dupN (zce l i) p.nets = true then 6 else 0 := by unfold zdJ; rw [zcd hp]
  have hgood := @zcJ p
  have hnx := zf1 hp
  have hlN : lastP l (i + 1) = p.key := by unfold lastP; rw [if_neg (by omega), Nat.add_sub_cancel, zcd hp]
  generalize hL : l.flatMap PE.pv = L at *
  generalize peE p = e at *
  refine G [8] ?_
  refine jcZ ?_
  refine G [4] ?_
  refine jdn ?_
  refine cK hC ?_
  refine jcS ?_
  refine cX ?_ ?_ <;> intro h
  ·exact jcr
  have h7 : e = 0 := by simpa using h
  clear h
  rw [if_neg (by simp [h7])] at hst
  obtain ⟨hn8, hkey⟩ := hgood h7
  have hkne : p.key ≠ ⟨#[]⟩ := fun e => key_ne' (by rw [e] at hkey; exact hkey)
  simp only [← lastP_le l i p.key hkne] at hst
  generalize hLK : lastP l i = lk at *
  by_cases hlk : leK p.key lk = true
  ·rw [if_pos (.inl hlk)] at hst
   rw [hhit (by rw [hst]; decide), hst] at hE
   subst hE
   refine G [7] ?_
   refine jdY (zgg (c := true) (hlk)) ?_
   refine G [14, 9, 0] ?_
   exact yE
  by_cases hkk : p.key = key
  ·rw [if_pos (.inr hkk)] at hst
   rw [hhit (by rw [hst]; decide), hst] at hE
   subst hE
   refine G [7] ?_
   refine zaa (zgg (c := false) qax) rfl rfl ?_
   refine G [5] ?_
   refine jdY (zaO (c := true) (decide_eq_true hkk)) ?_
   refine jdh ?_
   exact yE
  rw [if_neg (by simp [hlk, hkk])] at hst
  refine G [7] ?_
  refine zaa (zgg (c := false) qax) rfl rfl ?_
  refine G [5] ?_
  refine jdY (zaO (c := false) (decide_eq_false hkk)) ?_
  refine G [3] ?_
  obtain ⟨DD, hDD⟩ : ∃ b, dupN (zce l i) p.nets = b := ⟨_, rfl⟩
  rw [hDD] at hst
  refine G [15] ?_
  refine zae (fun m' st => ∃ j : Nat, m' + j = p.nets.length ∧ ∃ X : List NtP, DD = dupN X (p.nets.drop j) ∧ X = zce l i ++ p.nets.take j ∧ st = St.of [(1, .ref 1 0), (3, .mp 34), (4, qc p.key), (36, .p (.sl l.length 5 L)), (37, qd l.length), (38, qd i), (61, .p (.sl p.nets.length 2 (p.nets.flatMap ntC))), (62, qd p.nets.length), (63, qd j)] [(1, .box 24 (cfC key port l.length L)), (34, .map (netE X))]) p.nets.length ?_ ?_
  ·refine ⟨_, zad id _ _ ?_ ?_ rfl, 0, qk, zce l i, by rw [qbD]; exact hDD.symm, qz, rfl⟩
   ·exact ja5
   ·exact ⟨⟨rfl, rfl⟩, ⟨rfl, rfl⟩, trivial⟩
  rintro m' st ⟨j, hj, X, hdp, hXe, rfl⟩
  refine G [5] ?_
  refine cX ?_ ?_ <;> intro h
  ·have hlj : j < p.nets.length := by simp at h; omega
   clear h
   obtain ⟨q, hq⟩ : ∃ q, p.nets[j]? = some q := ⟨p.nets[j], List.getElem?_eq_getElem hlj⟩
   have hch2 := zaj (f := ntC) (k := 2) (fun _ => rfl) hq
   have hle2 := zak (f := ntC) (k := 2) (fun _ => rfl) hlj
   have hdr : p.nets.drop j = q :: p.nets.drop (j + 1) := by
    obtain ⟨q1, q2⟩ := qaG.1 hq
    rw [qbh q1, q2]
   have htk : p.nets.take (j + 1) = p.nets.take j ++ [q] := by
    obtain ⟨q1, q2⟩ := qaG.1 hq
    exact jcy
   rw [hdr, dupN] at hdp
   obtain ⟨qa, qb⟩ := q
   have hpush := netE_push X (qa, qb)
   have hgot := atN_got (qa, qb) X 0
   generalize hNL : p.nets.flatMap ntC = NL at *
   refine G [8] ?_
   refine jdZ (zac (Y := .agg [qe qa, qd qb]) sz82 rfl rfl (qaB rfl)) ?_
   refine zag ?_
   by_cases hm : (qa, qb) ∈ X
   ·rw [show (decide ((qa, qb) ∈ X) || dupN (X ++ [(qa, qb)]) (p.nets.drop (j + 1))) = true by simp [hm]] at hdp
    rw [if_pos hdp] at hst
    rw [hhit (by rw [hst]; decide), hst] at hE
    subst hE
    rw [decide_eq_true hm] at hgot
    refine G [5] ?_
    refine jdZ (a_lookupF underlying128 (netX (qa, qb)) (netCK _) zr4 (netFK (qa, qb) X) hgot rfl) ?_
    refine G [6] ?_
    exact jaS
   ·rw [show (decide ((qa, qb) ∈ X) || dupN (X ++ [(qa, qb)]) (p.nets.drop (j + 1))) = dupN (X ++ [(qa, qb)]) (p.nets.drop (j + 1)) by simp [hm]] at hdp
    rw [decide_eq_false hm] at hgot
    refine G [5] ?_
    refine jdZ (a_lookupF underlying128 (netX (qa, qb)) (netCK _) zr4 (netFK (qa, qb) X) hgot rfl) ?_
    refine G [6] ?_
    refine jdZ (a_mapUpdateF underlying128 (netX (qa, qb)) (netCK _) (netFN hm)) ?_
    refine jcQ ?_
    refine ⟨m' - 1, qk, _, zad id _ _ ?_ ?_ rfl, j + 1, qk, X ++ [(qa, qb)], hdp, by rw [htk, ← qaY, hXe], rfl⟩
    ·exact ja5
    ·exact ⟨⟨rfl, rfl⟩, ⟨congrArg (fun x => Slot.live (AObj.map x)) hpush, rfl⟩, trivial⟩
  have hge : j = p.nets.length := by simp at h; omega
  clear h
  subst hge
  rw [qa5] at hXe
  have hz : dupN X (p.nets.drop p.nets.length) = false := by rw [List.drop_length]; rfl
  rw [hz] at hdp
  rw [if_neg (by rw [hdp]; decide)] at hst
  refine jcQ ?_
  refine ⟨m - 1, qk, _, zad id _ _ ?_ ?_ rfl, i + 1, qk, fun q hq => ?_, rfl⟩
  ·refine ⟨⟨rfl, rfl⟩, ⟨rfl, rfl⟩, ⟨?_, rfl⟩, ⟨rfl, rfl⟩, ⟨rfl, rfl⟩, ⟨rfl, rfl⟩, trivial⟩
   rw [hlN]
   rfl
  ·refine ⟨⟨rfl, rfl⟩, ⟨?_, rfl⟩, trivial⟩
   rw [hnx, ← hXe]
   rfl
  ·exact jbD
 have hge : i = l.length := by simp at h; omega
 clear h
 subst hge
 rw [zcD hf] at hE
 subst hE
 refine jcV ?_
 exact yE
end Go.Proofs.YtlfjpippeeikdaaGreatDoor
namespace Go.Proofs.YtlfjpippeeikdaaGreatDoor
open Go.RowKit Go.Sort
set_option maxRecDepth 100000
theorem SE.of_ty {n : Nat} {ps : List PV} (h : Ty Tryz.prog (n + 3) 107 ps) (hb : PV.bdL 1048576 ps) : ∃ s : SE, s.OK ∧ ps = s.pv := by
 obtain ⟨_, rfl, x0, _, rfl, t0, x1, _, rfl, t1, x2, _, rfl, t2, x3, _, rfl, t3, rfl⟩ := zbi (ts := [3, 9, 3, 82]) qm h
 obtain ⟨k, rfl, hk⟩ := zbz U3 t0
 obtain ⟨t, rfl, _⟩ := zbF U9 t1
 obtain ⟨m, rfl, hm⟩ := zbz U3 t2
 obtain ⟨_, rfl, y0, _, rfl, u0, y1, _, rfl, u1, rfl⟩ := zbi (ts := [80, 3]) qm t3
 obtain ⟨a, rfl, ha⟩ := zbz U80 u0
 obtain ⟨b, rfl, hb'⟩ := zbz U3 u1
 obtain ⟨m0, m1⟩ := ze9 hm
 obtain ⟨a0, a1⟩ := wf_u32 ha
 refine ⟨⟨k, t, m, a, b⟩, ⟨?_, m0, m1, a0, a1⟩, rfl⟩
 simp [PV.bdL, PV.bd] at hb
 show t.size < _
 omega
theorem SE.list_ty {n : Nat} {ps : List PV} (h : Ty Tryz.prog (n + 4) 27 ps) (hb : PV.bdL 1048576 ps) : ∃ l : List SE, (∀ s ∈ l, s.OK) ∧ l.length ≤ 1048576 ∧ ps = [.sl l.length 5 (l.flatMap SE.pv)] := by
 obtain ⟨L, rfl, h2, h3⟩ := zfb (sz := 5) U27 qm h
 simp only [PV.bdL, PV.bd, and_true] at hb
 obtain ⟨l, k1, k2, k3⟩ := zfV (f := SE.pv) (Q := SE.OK) (L := L) fun x hx => by
  obtain ⟨s, h4, h5⟩ := SE.of_ty (n := n) (h3 x hx).1 (zbr hb.2 x hx)
  exact ⟨s, h4, h5⟩
 exact jcD
end Go.Proofs.YtlfjpippeeikdaaGreatDoor
namespace Go.Proofs.YtlfjpippeeikdaaGreatDoor
open Tryz
open Go.RowKit Go.Sort
set_option maxHeartbeats 16000000
set_option maxRecDepth 100000
theorem refCheck1_s (t : ByteArray) (n a b : Int) (ok : SE.OK ⟨1, t, n, a, b⟩) : Fn prog 86 [.agg (SE.cells ⟨1, t, n, a, b⟩)] (qd (seE ⟨1, t, n, a, b⟩)) [] := by
 obtain ⟨hz, hn0, hn1, ha0, ha1⟩ := ok
 dsimp only at hz hn0 hn1 ha0 ha1
 obtain ⟨E, hE⟩ : ∃ E, seE ⟨1, t, n, a, b⟩ = E := ⟨_, rfl⟩
 rw [hE]
 unfold seE at hE
 rw [if_neg (by dsimp only; decide)] at hE
 show Fn prog _ [.agg [qd 1, qc t, qd n, qe a, qd b]] _ _
 have hH := zbJ t
 refine fnI fun w0 A => ?_
 refine G [21] ?_
 refine jcJ ?_
 refine G [2] ?_
 refine zab (zaw U168 sz9 qk qk (show _ = 1 from rfl)) rfl rfl ⟨rfl, trivial⟩ ?_
 refine G [3] ?_
 by_cases ht : t ≠ ⟨#[]⟩
 ·by_cases hn : n ≠ 0
  ·rw [if_pos (show seF ⟨1, t, n, a, b⟩ by simp [seF, isT, isN, isC, *])] at hE
   exact jbX
  replace hn : n = 0 := qaH.1 hn
  by_cases hq : a = 0 ∧ b = 0
  ·refine G [5, 4, 2, 3, 4, 3, 9] ?_
   exact ja1
  ·rw [if_pos (show seF ⟨1, t, n, a, b⟩ by simp [seF, isT, isN, isC]; omega)] at hE
   exact jci
 replace ht : t = ⟨#[]⟩ := qaH.1 ht
 by_cases hn : n ≠ 0
 ·rw [if_pos (show seF ⟨1, t, n, a, b⟩ by simp [seF, isT, isN, isC, *])] at hE
  exact jbe
 replace hn : n = 0 := qaH.1 hn
 by_cases hq : a = 0 ∧ b = 0
 ·refine G [5, 3, 7, 3, 9] ?_
  exact ja1
 ·rw [if_pos (show seF ⟨1, t, n, a, b⟩ by simp [seF, isT, isN, isC]; omega)] at hE
  exact jbn
theorem refCheck2_s (t : ByteArray) (n a b : Int) (ok : SE.OK ⟨2, t, n, a, b⟩) : Fn prog 86 [.agg (SE.cells ⟨2, t, n, a, b⟩)] (qd (seE ⟨2, t, n, a, b⟩)) [] := by
 obtain ⟨hz, hn0, hn1, ha0, ha1⟩ := ok
 dsimp only at hz hn0 hn1 ha0 ha1
 obtain ⟨E, hE⟩ : ∃ E, seE ⟨2, t, n, a, b⟩ = E := ⟨_, rfl⟩
 rw [hE]
 unfold seE at hE
 rw [if_neg (by dsimp only; decide)] at hE
 show Fn prog _ [.agg [qd 2, qc t, qd n, qe a, qd b]] _ _
 refine fnI fun w0 A => ?_
 refine G [21] ?_
 refine jcJ ?_
 refine G [2] ?_
 refine zab (zaw U168 sz9 qk qk (show _ = 2 from rfl)) rfl rfl ⟨rfl, trivial⟩ ?_
 refine G [3] ?_
 by_cases ht : t ≠ ⟨#[]⟩
 ·rw [if_pos (show seF ⟨2, t, n, a, b⟩ by simp [seF, isT, isN, isC, *])] at hE
  exact jbI
 replace ht : t = ⟨#[]⟩ := qaH.1 ht
 by_cases hn : n ≠ 0
 ·by_cases hq : a = 0 ∧ b = 0
  ·refine G [5, 3, 7, 4, 2, 3, 6] ?_
   exact jbs
  ·rw [if_pos (show seF ⟨2, t, n, a, b⟩ by simp [seF, isT, isN, isC]; omega)] at hE
   subst hE
   refine G [5, 3, 7, 4, 2, 3, 6] ?_
   exact jaq
 replace hn : n = 0 := qaH.1 hn
 by_cases hq : a = 0 ∧ b = 0
 ·refine G [5, 3, 7, 3, 9] ?_
  exact jbs
 ·rw [if_pos (show seF ⟨2, t, n, a, b⟩ by simp [seF, isT, isN, isC]; omega)] at hE
  exact jbn
theorem refCheck3_s (t : ByteArray) (n a b : Int) (ok : SE.OK ⟨3, t, n, a, b⟩) : Fn prog 86 [.agg (SE.cells ⟨3, t, n, a, b⟩)] (qd (seE ⟨3, t, n, a, b⟩)) [] := by
 obtain ⟨hz, hn0, hn1, ha0, ha1⟩ := ok
 dsimp only at hz hn0 hn1 ha0 ha1
 obtain ⟨E, hE⟩ : ∃ E, seE ⟨3, t, n, a, b⟩ = E := ⟨_, rfl⟩
 rw [hE]
 unfold seE at hE
 rw [if_neg (by dsimp only; decide)] at hE
 show Fn prog _ [.agg [qd 3, qc t, qd n, qe a, qd b]] _ _
 refine fnI fun w0 A => ?_
 refine G [21] ?_
 refine jcJ ?_
 refine G [2] ?_
 refine zab (zaw U168 sz9 qk qk (show _ = 3 from rfl)) rfl rfl ⟨rfl, trivial⟩ ?_
 refine G [3] ?_
 by_cases ht : t ≠ ⟨#[]⟩
 ·rw [if_pos (show seF ⟨3, t, n, a, b⟩ by simp [seF, isT, isN, isC, *])] at hE
  exact jbI
 replace ht : t = ⟨#[]⟩ := qaH.1 ht
 by_cases hn : n ≠ 0
 ·rw [if_pos (show seF ⟨3, t, n, a, b⟩ by simp [seF, isT, isN, isC, *])] at hE
  exact jbe
 replace hn : n = 0 := qaH.1 hn
 by_cases hq : a = 0 ∧ b = 0
 ·refine G [5, 3, 7, 3, 9] ?_
  refine jcT ?_
  refine G [7] ?_
  rw [if_neg (show ¬ seF ⟨3, t, n, a, b⟩ by simp [seF, isT, isN, isC, *])] at hE
  rw [seV_3] at hE
  exact jcf
 ·rw [if_pos (show seF ⟨3, t, n, a, b⟩ by simp [seF, isT, isN, isC]; omega)] at hE
  exact jbn
theorem refCheck4_s (t : ByteArray) (n a b : Int) (ok : SE.OK ⟨4, t, n, a, b⟩) : Fn prog 86 [.agg (SE.cells ⟨4, t, n, a, b⟩)] (qd (seE ⟨4, t, n, a, b⟩)) [] := by
 obtain ⟨hz, hn0, hn1, ha0, ha1⟩ := ok
 dsimp only at hz hn0 hn1 ha0 ha1
 obtain ⟨E, hE⟩ : ∃ E, seE ⟨4, t, n, a, b⟩ = E := ⟨_, rfl⟩
 rw [hE]
 unfold seE at hE
 rw [if_neg (by dsimp only; decide)] at hE
 show Fn prog _ [.agg [qd 4, qc t, qd n, qe a, qd b]] _ _
 have hH := zbJ t
 refine fnI fun w0 A => ?_
 refine G [21] ?_
 refine jcJ ?_
 refine G [2] ?_
 refine zab (zaw U168 sz9 qk qk (show _ = 4 from rfl)) rfl rfl ⟨rfl, trivial⟩ ?_
 refine G [3] ?_
 by_cases ht : t ≠ ⟨#[]⟩
 ·by_cases hn : n ≠ 0
  ·rw [if_pos (show seF ⟨4, t, n, a, b⟩ by simp [seF, isT, isN, isC, *])] at hE
   exact jbX
  replace hn : n = 0 := qaH.1 hn
  by_cases hq : a = 0 ∧ b = 0
  ·refine G [5, 4, 2, 3, 4, 3, 9] ?_
   exact ja2
  ·rw [if_pos (show seF ⟨4, t, n, a, b⟩ by simp [seF, isT, isN, isC]; omega)] at hE
   exact jci
 replace ht : t = ⟨#[]⟩ := qaH.1 ht
 by_cases hn : n ≠ 0
 ·rw [if_pos (show seF ⟨4, t, n, a, b⟩ by simp [seF, isT, isN, isC, *])] at hE
  exact jbe
 replace hn : n = 0 := qaH.1 hn
 by_cases hq : a = 0 ∧ b = 0
 ·refine G [5, 3, 7, 3, 9] ?_
  exact ja2
 ·rw [if_pos (show seF ⟨4, t, n, a, b⟩ by simp [seF, isT, isN, isC]; omega)] at hE
  exact jbn
theorem refCheck5_s (t : ByteArray) (n a b : Int) (ok : SE.OK ⟨5, t, n, a, b⟩) : Fn prog 86 [.agg (SE.cells ⟨5, t, n, a, b⟩)] (qd (seE ⟨5, t, n, a, b⟩)) [] := by
 obtain ⟨hz, hn0, hn1, ha0, ha1⟩ := ok
 dsimp only at hz hn0 hn1 ha0 ha1
 obtain ⟨E, hE⟩ : ∃ E, seE ⟨5, t, n, a, b⟩ = E := ⟨_, rfl⟩
 rw [hE]
 unfold seE at hE
 rw [if_neg (by dsimp only; decide)] at hE
 show Fn prog _ [.agg [qd 5, qc t, qd n, qe a, qd b]] _ _
 refine fnI fun w0 A => ?_
 refine G [21] ?_
 refine jcJ ?_
 refine G [2] ?_
 refine zab (zaw U168 sz9 qk qk (show _ = 5 from rfl)) rfl rfl ⟨rfl, trivial⟩ ?_
 refine G [3] ?_
 by_cases ht : t ≠ ⟨#[]⟩
 ·rw [if_pos (show seF ⟨5, t, n, a, b⟩ by simp [seF, isT, isN, isC, *])] at hE
  exact jbI
 replace ht : t = ⟨#[]⟩ := qaH.1 ht
 by_cases hn : n ≠ 0
 ·rw [if_pos (show seF ⟨5, t, n, a, b⟩ by simp [seF, isT, isN, isC, *])] at hE
  exact jbe
 replace hn : n = 0 := qaH.1 hn
 by_cases hq : a = 0 ∧ b = 0
 ·refine G [5, 3, 7, 3, 9] ?_
  refine jcT ?_
  refine G [7] ?_
  rw [if_neg (show ¬ seF ⟨5, t, n, a, b⟩ by simp [seF, isT, isN, isC, *])] at hE
  rw [seV_5] at hE
  exact jcf
 ·rw [if_pos (show seF ⟨5, t, n, a, b⟩ by simp [seF, isT, isN, isC]; omega)] at hE
  exact jbn
theorem refCheck6_s (t : ByteArray) (n a b : Int) (ok : SE.OK ⟨6, t, n, a, b⟩) : Fn prog 86 [.agg (SE.cells ⟨6, t, n, a, b⟩)] (qd (seE ⟨6, t, n, a, b⟩)) [] := by
 obtain ⟨hz, hn0, hn1, ha0, ha1⟩ := ok
 dsimp only at hz hn0 hn1 ha0 ha1
 obtain ⟨E, hE⟩ : ∃ E, seE ⟨6, t, n, a, b⟩ = E := ⟨_, rfl⟩
 rw [hE]
 unfold seE at hE
 rw [if_neg (by dsimp only; decide)] at hE
 show Fn prog _ [.agg [qd 6, qc t, qd n, qe a, qd b]] _ _
 have hH := zbJ t
 have hZ := zhN
 refine fnI fun w0 A => ?_
 refine G [21] ?_
 refine jcJ ?_
 refine G [2] ?_
 refine zab (zaw U168 sz9 qk qk (show _ = 6 from rfl)) rfl rfl ⟨rfl, trivial⟩ ?_
 refine G [3] ?_
 by_cases ht : t ≠ ⟨#[]⟩
 ·by_cases hn : n ≠ 0
  ·rw [if_pos (show seF ⟨6, t, n, a, b⟩ by simp [seF, isT, isN, isC, *])] at hE
   exact jbX
  replace hn : n = 0 := qaH.1 hn
  by_cases hq : a = 0 ∧ b = 0
  ·refine G [5, 4, 2, 3, 4, 3, 9] ?_
   exact jax
  ·rw [if_pos (show seF ⟨6, t, n, a, b⟩ by simp [seF, isT, isN, isC]; omega)] at hE
   exact jci
 replace ht : t = ⟨#[]⟩ := qaH.1 ht
 by_cases hn : n ≠ 0
 ·rw [if_pos (show seF ⟨6, t, n, a, b⟩ by simp [seF, isT, isN, isC, *])] at hE
  exact jbe
 replace hn : n = 0 := qaH.1 hn
 by_cases hq : a = 0 ∧ b = 0
 ·refine G [5, 3, 7, 3, 9] ?_
  exact jax
 ·rw [if_pos (show seF ⟨6, t, n, a, b⟩ by simp [seF, isT, isN, isC]; omega)] at hE
  exact jbn
theorem refCheck7_s (t : ByteArray) (n a b : Int) (ok : SE.OK ⟨7, t, n, a, b⟩) : Fn prog 86 [.agg (SE.cells ⟨7, t, n, a, b⟩)] (qd (seE ⟨7, t, n, a, b⟩)) [] := by
 obtain ⟨hz, hn0, hn1, ha0, ha1⟩ := ok
 dsimp only at hz hn0 hn1 ha0 ha1
 obtain ⟨E, hE⟩ : ∃ E, seE ⟨7, t, n, a, b⟩ = E := ⟨_, rfl⟩
 rw [hE]
 unfold seE at hE
 rw [if_neg (by dsimp only; decide)] at hE
 show Fn prog _ [.agg [qd 7, qc t, qd n, qe a, qd b]] _ _
 have hEn := zih t hz
 obtain ⟨ea, eb, hen⟩ := enR_e t
 rw [hen] at hEn
 refine fnI fun w0 A => ?_
 refine G [21] ?_
 refine jcJ ?_
 refine G [2] ?_
 refine zab (zaw U168 sz9 qk qk (show _ = 7 from rfl)) rfl rfl ⟨rfl, trivial⟩ ?_
 refine G [3] ?_
 by_cases ht : t ≠ ⟨#[]⟩
 ·by_cases hn : n ≠ 0
  ·rw [if_pos (show seF ⟨7, t, n, a, b⟩ by simp [seF, isT, isN, isC, *])] at hE
   exact jbX
  replace hn : n = 0 := qaH.1 hn
  by_cases hq : a = 0 ∧ b = 0
  ·refine G [5, 4, 2, 3, 4, 3, 9] ?_
   exact ja3
  ·rw [if_pos (show seF ⟨7, t, n, a, b⟩ by simp [seF, isT, isN, isC]; omega)] at hE
   exact jci
 replace ht : t = ⟨#[]⟩ := qaH.1 ht
 by_cases hn : n ≠ 0
 ·rw [if_pos (show seF ⟨7, t, n, a, b⟩ by simp [seF, isT, isN, isC, *])] at hE
  exact jbe
 replace hn : n = 0 := qaH.1 hn
 by_cases hq : a = 0 ∧ b = 0
 ·refine G [5, 3, 7, 3, 9] ?_
  exact ja3
 ·rw [if_pos (show seF ⟨7, t, n, a, b⟩ by simp [seF, isT, isN, isC]; omega)] at hE
  exact jbn
theorem refCheck8_s (t : ByteArray) (n a b : Int) (ok : SE.OK ⟨8, t, n, a, b⟩) : Fn prog 86 [.agg (SE.cells ⟨8, t, n, a, b⟩)] (qd (seE ⟨8, t, n, a, b⟩)) [] := by
 obtain ⟨hz, hn0, hn1, ha0, ha1⟩ := ok
 dsimp only at hz hn0 hn1 ha0 ha1
 obtain ⟨E, hE⟩ : ∃ E, seE ⟨8, t, n, a, b⟩ = E := ⟨_, rfl⟩
 rw [hE]
 unfold seE at hE
 rw [if_neg (by dsimp only; decide)] at hE
 show Fn prog _ [.agg [qd 8, qc t, qd n, qe a, qd b]] _ _
 refine fnI fun w0 A => ?_
 refine G [21] ?_
 refine jcJ ?_
 refine G [2] ?_
 refine zab (zaw U168 sz9 qk qk (show _ = 8 from rfl)) rfl rfl ⟨rfl, trivial⟩ ?_
 refine G [3] ?_
 by_cases ht : t ≠ ⟨#[]⟩
 ·rw [if_pos (show seF ⟨8, t, n, a, b⟩ by simp [seF, isT, isN, isC, *])] at hE
  exact jbI
 replace ht : t = ⟨#[]⟩ := qaH.1 ht
 by_cases hn : n ≠ 0
 ·by_cases hq : a = 0 ∧ b = 0
  ·refine G [5, 3, 7, 4, 2, 3, 6] ?_
   exact jbt
  ·rw [if_pos (show seF ⟨8, t, n, a, b⟩ by simp [seF, isT, isN, isC]; omega)] at hE
   subst hE
   refine G [5, 3, 7, 4, 2, 3, 6] ?_
   exact jaq
 replace hn : n = 0 := qaH.1 hn
 by_cases hq : a = 0 ∧ b = 0
 ·refine G [5, 3, 7, 3, 9] ?_
  exact jbt
 ·rw [if_pos (show seF ⟨8, t, n, a, b⟩ by simp [seF, isT, isN, isC]; omega)] at hE
  exact jbn
theorem refCheck9_s (t : ByteArray) (n a b : Int) (ok : SE.OK ⟨9, t, n, a, b⟩) : Fn prog 86 [.agg (SE.cells ⟨9, t, n, a, b⟩)] (qd (seE ⟨9, t, n, a, b⟩)) [] := by
 obtain ⟨hz, hn0, hn1, ha0, ha1⟩ := ok
 dsimp only at hz hn0 hn1 ha0 ha1
 obtain ⟨E, hE⟩ : ∃ E, seE ⟨9, t, n, a, b⟩ = E := ⟨_, rfl⟩
 rw [hE]
 unfold seE at hE
 rw [if_neg (by dsimp only; decide)] at hE
 show Fn prog _ [.agg [qd 9, qc t, qd n, qe a, qd b]] _ _
 refine fnI fun w0 A => ?_
 refine G [21] ?_
 refine jcJ ?_
 refine G [2] ?_
 refine zab (zaw U168 sz9 qk qk (show _ = 9 from rfl)) rfl rfl ⟨rfl, trivial⟩ ?_
 refine G [3] ?_
 by_cases ht : t ≠ ⟨#[]⟩
 ·rw [if_pos (show seF ⟨9, t, n, a, b⟩ by simp [seF, isT, isN, isC, *])] at hE
  exact jbI
 replace ht : t = ⟨#[]⟩ := qaH.1 ht
 by_cases hn : n ≠ 0
 ·rw [if_pos (show seF ⟨9, t, n, a, b⟩ by simp [seF, isT, isN, isC, *])] at hE
  exact jbe
 replace hn : n = 0 := qaH.1 hn
 by_cases hq : a = 0 ∧ b = 0
 ·refine G [5, 3, 7, 3, 9] ?_
  refine jcT ?_
  refine G [7] ?_
  rw [if_neg (show ¬ seF ⟨9, t, n, a, b⟩ by simp [seF, isT, isN, isC, *])] at hE
  rw [seV_9] at hE
  exact jcf
 ·rw [if_pos (show seF ⟨9, t, n, a, b⟩ by simp [seF, isT, isN, isC]; omega)] at hE
  exact jbn
theorem refCheck10_s (t : ByteArray) (n a b : Int) (ok : SE.OK ⟨10, t, n, a, b⟩) : Fn prog 86 [.agg (SE.cells ⟨10, t, n, a, b⟩)] (qd (seE ⟨10, t, n, a, b⟩)) [] := by
 obtain ⟨hz, hn0, hn1, ha0, ha1⟩ := ok
 dsimp only at hz hn0 hn1 ha0 ha1
 obtain ⟨E, hE⟩ : ∃ E, seE ⟨10, t, n, a, b⟩ = E := ⟨_, rfl⟩
 rw [hE]
 unfold seE at hE
 rw [if_neg (by dsimp only; decide)] at hE
 show Fn prog _ [.agg [qd 10, qc t, qd n, qe a, qd b]] _ _
 have hC := zdD a b ha0 ha1
 change Fn prog _ [.agg [qe a, qd b]] _ _ at hC
 refine fnI fun w0 A => ?_
 refine G [21] ?_
 refine jcJ ?_
 refine G [2] ?_
 refine zab (zaw U168 sz9 qk qk (show _ = 10 from rfl)) rfl rfl ⟨rfl, trivial⟩ ?_
 refine G [3] ?_
 by_cases ht : t ≠ ⟨#[]⟩
 ·rw [if_pos (show seF ⟨10, t, n, a, b⟩ by simp [seF, isT, isN, isC, *])] at hE
  exact jbI
 replace ht : t = ⟨#[]⟩ := qaH.1 ht
 by_cases hn : n ≠ 0
 ·rw [if_pos (show seF ⟨10, t, n, a, b⟩ by simp [seF, isT, isN, isC, *])] at hE
  exact jbe
 replace hn : n = 0 := qaH.1 hn
 by_cases hq : a = 0 ∧ b = 0
 ·refine G [5, 3, 7, 3, 9] ?_
  refine jcT ?_
  refine G [7] ?_
  exact jbL
 ·refine G [5, 3, 7, 3, 9] ?_
  refine zaa (zao U82 rfl rfl qm qm qm (c := true) (by rw [zbf]; simp; omega)) rfl rfl ?_
  refine G [2, 3, 4] ?_
  exact jbL
theorem refCheckBad_s (s : SE) (hk : s.k < 1 ∨ 10 < s.k) : Fn prog 86 [.agg s.cells] (qd (seE s)) [] := by
 exact jaY
theorem zaY (s : SE) (ok : s.OK) : Fn prog 86 [.agg s.cells] (qd (seE s)) [] := by
 by_cases hk : s.k < 1 ∨ 10 < s.k
 ·exact refCheckBad_s s hk
 obtain ⟨k, t, n, a, b⟩ := s
 dsimp only at hk
 have : k = 1 ∨ k = 2 ∨ k = 3 ∨ k = 4 ∨ k = 5 ∨ k = 6 ∨ k = 7 ∨ k = 8 ∨ k = 9 ∨ k = 10 := qk
 rcases this with rfl | rfl | rfl | rfl | rfl | rfl | rfl | rfl | rfl | rfl
 ·exact refCheck1_s t n a b ok
 ·exact refCheck2_s t n a b ok
 ·exact refCheck3_s t n a b ok
 ·exact refCheck4_s t n a b ok
 ·exact refCheck5_s t n a b ok
 ·exact refCheck6_s t n a b ok
 ·exact refCheck7_s t n a b ok
 ·exact refCheck8_s t n a b ok
 ·exact refCheck9_s t n a b ok
 ·exact refCheck10_s t n a b ok
end Go.Proofs.YtlfjpippeeikdaaGreatDoor
