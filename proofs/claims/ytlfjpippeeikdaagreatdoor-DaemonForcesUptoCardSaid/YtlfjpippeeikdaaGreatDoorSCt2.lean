/- The tree of a configuration's nets, as data. -/
import Derived.Test.YtlfjpippeeikdaaGreatDoorSDm1
set_option linter.all false
namespace Go.Proofs.YtlfjpippeeikdaaGreatDoor
open Go.RowKit Go.Sort
set_option maxRecDepth 100000
def nkey (n : NtP) : Key := zhC n.1.toNat n.2.toNat
structure TM (T : TR) (M : List (Key × Own)) : Prop where
 v : T.valid
 s : T.short
 p : M.Perm T.pairs
 l : T.list.length ≤ 2 * M.length
 k : ∀ x ∈ M, x.1.length ≤ 32
 o : ∀ x ∈ M, x.2.size ≤ 140737488351232
theorem TM.nil : TM .nil [] := ⟨trivial, trivial, .nil, Nat.le_refl _, qz, qz⟩
theorem TM.put {T : TR} {M : List (Key × Own)} (h : TM T M) {n : Key} {o : Own} (hn : n.length ≤ 32) (ho : o ≠ noOwn) (hz : o.size ≤ 140737488351232) (hk : ∀ x ∈ M, x.1 ≠ n) : TM (T.put n o) (M ++ [(n, o)]) := by
 have hp := TR.put_pairs (n := n) h.v ho
 rw [zdT (fun x hx => hk x (h.p.mem_iff.2 hx))] at hp
 refine ⟨(TR.put_valid h.v ho).1, put_short h.v h.s hn ho, ?_, ?_, ?_, ?_⟩
 ·exact (List.perm_append_singleton _ _).trans ((List.Perm.cons _ h.p).trans hp.symm)
 ·have := TR.put_len T n o
  have := h.l
  rw [qaC]
  simp only [qaO, qbV]
  omega
 ·intro x hx
  rcases qaW.1 hx with hx | hx
  ·exact h.k x hx
  ·have : x = (n, o) := by simpa using hx
   rw [this]; exact hn
 ·intro x hx
  rcases qaW.1 hx with hx | hx
  ·exact h.o x hx
  ·have : x = (n, o) := by simpa using hx
   rw [this]; exact hz
theorem TM.ok {T : TR} {M : List (Key × Own)} (h : TM T M) (hM : M.length ≤ 1000) : ∀ x ∈ T.list, x.OK :=
 TR.list_ok h.s (fun x hx => h.o x (h.p.mem_iff.2 hx)) (by have := h.l; omega)
theorem TM.grown {T : TR} {M : List (Key × Own)} (h : TM T M) : grownL M = T.list := grownL_tree h.v h.p
theorem zf0 {a b : Int} (h0 : 0 ≤ a) (h1 : a < 4294967296) (hf : zap a b = 0) : (nkey (a, b)).length ≤ 32 ∧ a = zau (nkey (a, b)) ∧ b = ((nkey (a, b)).length : Int) :=
 ND.keyed (x := ⟨a, b, noOwn, 0⟩) h0 h1 hf
theorem nkey_inj {n m : NtP} (hn : ntOK n) (hm : ntOK m) (fn : zap n.1 n.2 = 0) (fm : zap m.1 m.2 = 0) (h : nkey n = nkey m) : n = m := by
 obtain ⟨a, b⟩ := n
 obtain ⟨c, d⟩ := m
 obtain ⟨_, h1, h2⟩ := zf0 hn.1 hn.2 fn
 obtain ⟨_, h3, h4⟩ := zf0 hm.1 hm.2 fm
 rw [h] at h1 h2
 have e1 : a = c := h1.trans h3.symm
 have e2 : b = d := h2.trans h4.symm
 rw [e1, e2]
def zbe (p : PE) (j : Nat) : List (Key × Own) := (p.nets.take j).map fun n => (nkey n, p.key)
def zav (l : List PE) (i : Nat) : List (Key × Own) := (l.take i).flatMap fun p => p.nets.map fun n => (nkey n, p.key)
theorem zeW {l : List PE} {i : Nat} {p : PE} (h : l[i]? = some p) : zav l (i + 1) = zav l i ++ zbe p p.nets.length := by
 obtain ⟨h1, h2⟩ := qaG.1 h
 unfold zav zbe
 rw [qaM h1, h2, qaX, qa5]
 simp
theorem zeU {p : PE} {j : Nat} {n : NtP} (h : p.nets[j]? = some n) : zbe p (j + 1) = zbe p j ++ [(nkey n, p.key)] := by
 obtain ⟨h1, h2⟩ := qaG.1 h
 unfold zbe
 rw [qaM h1, h2, qa4]
 rfl
theorem pairs_keys (l : List PE) (i : Nat) (p : PE) (j : Nat) : ∀ x ∈ zav l i ++ zbe p j, ∃ m, m ∈ zce l i ++ p.nets.take j ∧ x.1 = nkey m := by
 intro x hx
 rcases qaW.1 hx with hx | hx
 ·unfold zav at hx
  obtain ⟨q, hq, hx⟩ := List.mem_flatMap.1 hx
  obtain ⟨m, hm, rfl⟩ := qaJ.1 hx
  exact ⟨m, qaW.2 (.inl (List.mem_flatMap.2 ⟨q, hq, hm⟩)), rfl⟩
 ·unfold zbe at hx
  obtain ⟨m, hm, rfl⟩ := qaJ.1 hx
  exact ⟨m, qaW.2 (.inr hm), rfl⟩
theorem pairsB_len (l : List PE) : ∀ i, (zav l i).length = (zce l i).length := by
 intro i
 unfold zav zce
 induction (l.take i) with
 | nil => rfl
 | cons p r ih => simp [qbb, ih]
theorem dupN_no : ∀ (ns acc : List NtP), dupN acc ns = false → ∀ j (n : NtP), ns[j]? = some n → n ∉ acc ++ ns.take j
 | [], _, _, j, n, h => by simp at h
 | x :: r, acc, hd, 0, n, h => by
  unfold dupN at hd
  rw [qbB] at hd
  simp at h; subst h
  simpa using hd.1
 | x :: r, acc, hd, j + 1, n, h => by
  unfold dupN at hd
  rw [qbB] at hd
  have := dupN_no r (acc ++ [x]) hd.2 j n qG
  rwa [qaY, qbN] at this
structure CfGood (l : List PE) : Prop where
 n6 : l.length ≤ 6
 pe : ∀ p ∈ l, peE p = 0
 nd : ∀ i p, l[i]? = some p → dupN (zce l i) p.nets = false
theorem zhr {c : CF} (h : cfE c = 0) : CfGood c.ps := by
 unfold cfE at h
 split at h
 ·rename_i h2; exact absurd h h2.2
 split at h
 ·cases h
 split at h
 ·cases h
 have key : ∀ i p, c.ps[i]? = some p → peE p = 0 ∧ dupN (zce c.ps i) p.nets = false := by
  intro i p hp
  have hi := (qaG.1 hp).1
  have h1 := zgG h i hi
  unfold zdJ at h1
  rw [zcd hp] at h1
  split at h1
  ·exact absurd h1 qP
  ·rename_i h2
   split at h1
   ·cases h1
   split at h1
   ·cases h1
   ·rename_i h3
    exact ⟨qaH.1 h2, by simpa using h3⟩
 refine ⟨qk, fun p hp => ?_, fun i p hp => (key i p hp).2⟩
 obtain ⟨i, hi, rfl⟩ := List.getElem_of_mem hp
 exact (key i _ (List.getElem?_eq_getElem hi)).1
theorem CfGood.net {l : List PE} (h : CfGood l) {p : PE} (hp : p ∈ l) : ∀ n ∈ p.nets, zap n.1 n.2 = 0 := by
 have h1 := h.pe p hp
 unfold peE at h1
 split at h1
 ·exact absurd h1 qP
 split at h1
 ·rename_i h2; exact absurd h1 h2.2
 split at h1
 ·cases h1
 split at h1
 ·rename_i h2; exact absurd h1 h2.2
 split at h1
 ·cases h1
 split at h1
 ·cases h1
 intro n hn
 obtain ⟨j, hj, rfl⟩ := List.getElem_of_mem hn
 have h2 := zgG h1 j hj
 unfold zcx at h2
 have hg : ntG p.nets j = p.nets[j] := by unfold ntG; rw [List.getD_eq_getElem?_getD, List.getElem?_eq_getElem hj]; rfl
 rw [hg] at h2
 split at h2
 ·exact absurd h2 qP
 ·rename_i h3; exact qaH.1 h3
theorem CfGood.netB {l : List PE} (h : CfGood l) (ok : ∀ p ∈ l, p.OK) (i : Nat) : ∀ n ∈ zce l i, ntOK n ∧ zap n.1 n.2 = 0 := by
 intro n hn
 obtain ⟨p, hp, hn⟩ := List.mem_flatMap.1 hn
 have hm := qbj hp
 exact ⟨(ok p hm).nets n hn, h.net hm n hn⟩
theorem CfGood.new {l : List PE} (h : CfGood l) (ok : ∀ p ∈ l, p.OK) {i j : Nat} {p : PE} {n : NtP} (hp : l[i]? = some p) (hn : p.nets[j]? = some n) : ∀ x ∈ zav l i ++ zbe p j, x.1 ≠ nkey n := by
 intro x hx he
 obtain ⟨m, hm, hk⟩ := pairs_keys l i p j x hx
 have hpm := qaE hp
 have hnm := qaE hn
 have hmok : ntOK m ∧ zap m.1 m.2 = 0 := by
  rcases qaW.1 hm with hm | hm
  ·exact h.netB ok i m hm
  ·have hm := qbj hm
   exact ⟨(ok p hpm).nets m hm, h.net hpm m hm⟩
 have : m = n := nkey_inj hmok.1 ((ok p hpm).nets n hnm) hmok.2 (h.net hpm n hnm) (hk.symm.trans he)
 subst this
 exact dupN_no _ _ (h.nd i p hp) j m hn hm
theorem key_size {s : ByteArray} (h : keyE s = 0) : s.size ≤ 140737488351232 := by
 unfold keyE at h
 split at h
 ·omega
 ·cases h
theorem key_own {s : ByteArray} (h : keyE s = 0) : s ≠ noOwn := by
 intro e
 rw [e] at h
 exact absurd h (by decide +kernel)
def tOf (M : List (Key × Own)) : TR := M.foldl (fun t x => t.put x.1 x.2) .nil
theorem tOf_snoc (M : List (Key × Own)) (x : Key × Own) : tOf (M ++ [x]) = (tOf M).put x.1 x.2 := by
 unfold tOf
 rw [qbJ]
 rfl
theorem zeT (p : PE) : zbe p 0 = [] := by simp [zbe]
theorem zeV (l : List PE) : zav l 0 = [] := by simp [zav]
theorem zfX (p : PE) {j : Nat} (h : j ≤ p.nets.length) : (zbe p j).length = j := by
 unfold zbe
 rw [qaR, List.length_take]
 omega
theorem tOf_in {l : List PE} (h : CfGood l) (ok : ∀ p ∈ l, p.OK) {i : Nat} {p : PE} (hp : l[i]? = some p) (hT : TM (tOf (zav l i)) (zav l i)) : ∀ j, j ≤ p.nets.length → TM (tOf (zav l i ++ zbe p j)) (zav l i ++ zbe p j)
 | 0, _ => by rw [zeT, qaV]; exact hT
 | j + 1, hj => by
  have ih := tOf_in h ok hp hT j qk
  have hm := qaE hp
  have hn : p.nets[j]? = some p.nets[j] := List.getElem?_eq_getElem qk
  have hnm := qaE hn
  have hk := (zcJ (h.pe p hm)).2
  have hno := (ok p hm).nets _ hnm
  rw [zeU hn, ← qaY, tOf_snoc]
  exact ih.put (zf0 hno.1 hno.2 (h.net hm _ hnm)).1 (key_own hk) (key_size hk) (h.new ok hp hn)
theorem zfL {l : List PE} (h : CfGood l) (ok : ∀ p ∈ l, p.OK) : ∀ i, i ≤ l.length → TM (tOf (zav l i)) (zav l i)
 | 0, _ => by rw [zeV]; exact TM.nil
 | i + 1, hi => by
  have hp : l[i]? = some l[i] := List.getElem?_eq_getElem qk
  rw [zeW hp]
  exact tOf_in h ok hp (zfL h ok i qk) _ (Nat.le_refl _)
theorem zdC {l : List PE} (h : CfGood l) {i : Nat} (hi : i ≤ l.length) : (zav l i).length ≤ 8 * i := by
 rw [pairsB_len]
 refine netsB_len (fun j hj => ?_) hi
 have hj' : l[j]? = some l[j] := List.getElem?_eq_getElem qk
 rw [zcd hj']
 exact (zcJ (h.pe _ (qaE hj'))).1
end Go.Proofs.YtlfjpippeeikdaaGreatDoor
namespace Go.Proofs.YtlfjpippeeikdaaGreatDoor
open Tryz
open Go.RowKit Go.Sort
set_option maxHeartbeats 16000000
set_option maxRecDepth 100000
theorem ctree_bad (c : CF) (ok : c.OK) (h0 : cfE c ≠ 0) : Fn prog 16 [.agg c.cells] (nRes (cfE c)) (nNew (cfE c) []) := by
 have hC := zbT c ok
 exact jaN
theorem rtree_bad (c : CF) (ok : c.OK) (h0 : cfE c ≠ 0) : Fn prog 21 [.agg c.cells] (nRes (cfE c)) (nNew (cfE c) []) := by
 have hC := zaX c ok
 exact jaN
theorem ctree_s (c : CF) (ok : c.OK) (h0 : cfE c = 0) : Fn prog 16 [.agg c.cells] (.tup [.row 0, qd 0]) [(0, .row 84 4 (tOf (zav c.ps c.ps.length)).list.length (nds (tOf (zav c.ps c.ps.length)).list))] := by
 have hC := zbT c ok
 rw [h0] at hC
 have hg := zhr h0
 obtain ⟨key, port, ps⟩ := c
 have hok := ok.ps
 dsimp only at hg hok
 change Fn prog _ [.agg [qc key, qd port, .p (.sl ps.length 5 (ps.flatMap PE.pv))]] _ _ at hC
 refine jdA ?_
 have hok1 : ∀ p ∈ ps, p.OK := fun p hp => (hok p hp).1
 have hall := zfL hg hok1
 have h6 := hg.n6
 clear ok h0
 refine fnI fun w0 A => ?_
 refine G [10] ?_
 refine cK hC ?_
 refine G [5, 1, 1, 9, 0] ?_
 refine cX ?_ ?_ <;> intro h
 ·cases h
 refine jcQ ?_
 refine zaH (zbY 5 100 84 4 rfl rfl) ?_
 refine G [9] ?_
 refine zae (fun m st => ∃ i : Nat, m + i = ps.length ∧ st = St.of [(5, .row 100), (16, .p (.sl ps.length 5 (ps.flatMap PE.pv))), (17, qd ps.length), (18, qd i)] [(100, .row 84 4 (tOf (zav ps i)).list.length (nds (tOf (zav ps i)).list))]) ps.length ?_ ?_
 ·exact jbG
 rintro m st ⟨i, hi, rfl⟩
 refine G [5] ?_
 refine cX ?_ ?_ <;> intro h
 ·have hlt : i < ps.length := by simp at h; omega
  clear h
  obtain ⟨p, hp⟩ : ∃ p, ps[i]? = some p := ⟨ps[i], List.getElem?_eq_getElem hlt⟩
  have hch := zaj (f := PE.pv) (k := 5) (fun _ => rfl) hp
  have hle := zak (f := PE.pv) (k := 5) (fun _ => rfl) hlt
  have hmem := qaE hp
  have hpn := (hok p hmem).2
  have hin := tOf_in hg hok1 hp (hall i qk)
  have hnx := zeW hp
  have hkey := (zcJ (hg.pe p hmem)).2
  have h8 := (zcJ (hg.pe p hmem)).1
  have hBl := zdC hg (Nat.le_of_lt hlt)
  have hnet := hg.net hmem
  have hnok := (hok1 p hmem).nets
  generalize ps.flatMap PE.pv = L at *
  refine G [8] ?_
  refine jcZ ?_
  refine G [9] ?_
  refine zae (fun m' st => ∃ j : Nat, m' + j = p.nets.length ∧ st = St.of [(5, .row 100), (7, .ref 7 0), (16, .p (.sl ps.length 5 L)), (17, qd ps.length), (18, qd i), (23, .p (.sl p.nets.length 2 (p.nets.flatMap ntC))), (24, qd p.nets.length), (25, qd j)] [(7, .box 48 p.cells), (100, .row 84 4 (tOf (zav ps i ++ zbe p j)).list.length (nds (tOf (zav ps i ++ zbe p j)).list))]) p.nets.length ?_ ?_
  ·exact jbw
  rintro m' st ⟨j, hj, rfl⟩
  refine G [5] ?_
  refine cX ?_ ?_ <;> intro h
  ·have hlj : j < p.nets.length := by simp at h; omega
   clear h
   obtain ⟨q, hq⟩ : ∃ q, p.nets[j]? = some q := ⟨p.nets[j], List.getElem?_eq_getElem hlj⟩
   have hch2 := zaj (f := ntC) (k := 2) (fun _ => rfl) hq
   have hle2 := zak (f := ntC) (k := 2) (fun _ => rfl) hlj
   have hqm := qaE hq
   have hq0 := hnok q hqm
   have hqf := hnet q hqm
   have hTM := hin j qk
   have hML : (zav ps i ++ zbe p j).length ≤ 1000 := by rw [qaC, zfX p (by omega)]; omega
   have hTok := hTM.ok hML
   obtain ⟨hE, hTo⟩ := trieE_list hTok hTM.v hTM.s
   have hTl := hTM.l
   have hPut := Put_s (tOf (zav ps i ++ zbe p j)).list hTok qk ⟨q.1, q.2, p.key, 1⟩ ⟨hq0.1, hq0.2, by have := zf0 hq0.1 hq0.2 hqf; show (-9223372036854775808 : Int) ≤ q.2; omega, by have := zf0 hq0.1 hq0.2 hqf; show q.2 ≤ (9223372036854775807 : Int); omega, by show (-9223372036854775808 : Int) ≤ 1; omega, by show (1 : Int) ≤ 9223372036854775807; omega, key_size hkey⟩
   have hPE : putE (tOf (zav ps i ++ zbe p j)).list ⟨q.1, q.2, p.key, 1⟩ = 0 := by
    unfold putE
    rw [if_neg (by rw [hE]; simp), if_neg (by show ¬ zap q.1 q.2 ≠ 0; rw [hqf]; simp), if_neg (key_own hkey)]
   have hPL : putL (tOf (zav ps i ++ zbe p j)).list ⟨q.1, q.2, p.key, 1⟩ = (tOf (zav ps i ++ zbe p (j + 1))).list := by
    rw [zeU hq, ← qaY, tOf_snoc]
    unfold putL
    rw [hTo]
    rfl
   rw [hPE, hPL] at hPut
   rw [(zg8 []).1, (zg8 (tOf (zav ps i ++ zbe p (j + 1))).list).2] at hPut
   have hv := zen (tOf (zav ps i ++ zbe p (j + 1))).list
   clear hPE hPL hTo hE hTl hTok hTM hML
   obtain ⟨a, b⟩ := q
   dsimp only at hPut
   change Fn prog _ [.p (.sl (tOf (zav ps i ++ zbe p j)).list.length 4 (nds (tOf (zav ps i ++ zbe p j)).list)), .agg [qe a, qd b], qc p.key] _ _ at hPut
   generalize hN1 : nds (tOf (zav ps i ++ zbe p (j + 1))).list = N1 at *
   generalize hn1 : (tOf (zav ps i ++ zbe p (j + 1))).list.length = n1 at *
   generalize nds (tOf (zav ps i ++ zbe p j)).list = N0 at *
   generalize (tOf (zav ps i ++ zbe p j)).list.length = n0 at *
   generalize hNL : p.nets.flatMap ntC = NL at *
   refine G [8] ?_
   refine jdZ (zac (Y := .agg [qe a, qd b]) sz82 rfl rfl (qaB rfl)) ?_
   refine G [6] ?_
   refine zbQ (fun n => 34 + 1000 * n) (hPut) rfl rfl func41 rfl rfl qS qS rfl rfl rfl ql rfl rfl rfl ?_
   refine G [9, 9, 0] ?_
   refine ⟨m' - 1, qk, _, zad (fun o => bif Nat.beq o 100 then 34 else o) _ _ ?_ ?_ rfl, j + 1, qk, rfl⟩
   ·exact ja5
   ·exact ⟨⟨rfl, rfl⟩, ⟨by rw [hn1, hN1]; rfl, rfl⟩, trivial⟩
  have hge : j = p.nets.length := by simp at h; omega
  clear h
  subst hge
  rw [← hnx]
  refine jcQ ?_
  refine ⟨m - 1, qk, _, zad id _ _ ?_ ?_ rfl, i + 1, qk, rfl⟩
  ·exact ja5
  ·exact ⟨⟨rfl, rfl⟩, trivial⟩
 have hge : i = ps.length := by simp at h; omega
 clear h
 subst hge
 refine jdh ?_
 exact jbc
theorem ones_push (M : List (Key × Own)) (a b : Int) (o : Own) (h : one (nkey (a, b), o) = ⟨a, b, o, 1⟩) : nds (M.map one) ++ [qi a, qh b, qg o, qh 1] = nds ((M ++ [(nkey (a, b), o)]).map one) := by
 rw [qa4, zg7, qaF, h]
 rfl
theorem rtree_s (c : CF) (ok : c.OK) (h0 : cfE c = 0) : Fn prog 21 [.agg c.cells] (.tup [.row 0, qd 0]) [(0, .row 84 4 (tOf (zav c.ps c.ps.length)).list.length (nds (tOf (zav c.ps c.ps.length)).list))] := by
 have hC := zaX c ok
 rw [h0] at hC
 have hg := zhr h0
 obtain ⟨key, port, ps⟩ := c
 have hok := ok.ps
 dsimp only at hg hok
 change Fn prog _ [.agg [qc key, qd port, .p (.sl ps.length 5 (ps.flatMap PE.pv))]] _ _ at hC
 refine jdA ?_
 have hok1 : ∀ p ∈ ps, p.OK := fun p hp => (hok p hp).1
 have hall := zfL hg hok1
 have h6 := hg.n6
 clear ok h0
 refine fnI fun w0 A => ?_
 refine G [10] ?_
 refine cK hC ?_
 refine G [5, 1, 1, 9, 0] ?_
 refine cX ?_ ?_ <;> intro h
 ·cases h
 refine jcQ ?_
 refine zaH (zbY 5 100 84 4 rfl rfl) ?_
 refine G [9] ?_
 refine zae (fun m st => ∃ i : Nat, m + i = ps.length ∧ st = St.of [(5, .row 100), (16, .p (.sl ps.length 5 (ps.flatMap PE.pv))), (17, qd ps.length), (18, qd i)] [(100, .row 84 4 (zav ps i).length (nds ((zav ps i).map one)))]) ps.length ?_ ?_
 ·exact jbG
 rintro m st ⟨i, hi, rfl⟩
 refine G [5] ?_
 refine cX ?_ ?_ <;> intro h
 ·have hlt : i < ps.length := by simp at h; omega
  clear h
  obtain ⟨p, hp⟩ : ∃ p, ps[i]? = some p := ⟨ps[i], List.getElem?_eq_getElem hlt⟩
  have hch := zaj (f := PE.pv) (k := 5) (fun _ => rfl) hp
  have hle := zak (f := PE.pv) (k := 5) (fun _ => rfl) hlt
  have hmem := qaE hp
  have hpn := (hok p hmem).2
  have hnx := zeW hp
  have h8 := (zcJ (hg.pe p hmem)).1
  have hBl := zdC hg (Nat.le_of_lt hlt)
  have hnet := hg.net hmem
  have hnok := (hok1 p hmem).nets
  generalize ps.flatMap PE.pv = L at *
  refine G [8] ?_
  refine jcZ ?_
  refine G [9] ?_
  refine zae (fun m' st => ∃ j : Nat, m' + j = p.nets.length ∧ st = St.of [(5, .row 100), (7, .ref 7 0), (16, .p (.sl ps.length 5 L)), (17, qd ps.length), (18, qd i), (23, .p (.sl p.nets.length 2 (p.nets.flatMap ntC))), (24, qd p.nets.length), (25, qd j)] [(7, .box 48 p.cells), (100, .row 84 4 ((zav ps i).length + j) (nds ((zav ps i ++ zbe p j).map one)))]) p.nets.length ?_ ?_
  ·exact jbw
  rintro m' st ⟨j, hj, rfl⟩
  refine G [5] ?_
  refine cX ?_ ?_ <;> intro h
  ·have hlj : j < p.nets.length := by simp at h; omega
   clear h
   obtain ⟨q, hq⟩ : ∃ q, p.nets[j]? = some q := ⟨p.nets[j], List.getElem?_eq_getElem hlj⟩
   have hch2 := zaj (f := ntC) (k := 2) (fun _ => rfl) hq
   have hle2 := zak (f := ntC) (k := 2) (fun _ => rfl) hlj
   have hqm := qaE hq
   have hq0 := hnok q hqm
   have hqf := hnet q hqm
   have hpx := zeU hq
   have hcl : (nds ((zav ps i ++ zbe p j).map one)).length = ((zav ps i).length + j) * 4 := by rw [zem, qaR, qaC, zfX p (by omega)]
   obtain ⟨a, b⟩ := q
   have hone : one (nkey (a, b), p.key) = ⟨a, b, p.key, 1⟩ := by
    obtain ⟨_, k1, k2⟩ := zf0 hq0.1 hq0.2 hqf
    dsimp only at k1 k2
    unfold one
    dsimp only
    rw [← k1, ← k2]
   have hpush := ones_push (zav ps i ++ zbe p j) a b p.key hone
   rw [qaY (zav ps i), ← hpx] at hpush
   generalize nds ((zav ps i ++ zbe p j).map one) = N0 at *
   generalize hNL : p.nets.flatMap ntC = NL at *
   refine G [8] ?_
   refine jdZ (zac (Y := .agg [qe a, qd b]) sz82 rfl rfl (qaB rfl)) ?_
   refine G [7] ?_
   refine zab (xs := [.agg [qe a, qd b, qc p.key, qd 1]]) (zai (es := [qe a, qd b, qc p.key, qd 1]) (cs := [qi a, qh b, qg p.key, qh 1]) 34 U25 sz84 zc84 (qaA rfl) (qaA rfl) rfl qm qm qm (qaA rfl)) qH rfl ⟨rfl, trivial⟩ ?_
   refine zab (zaq 35 U25 eo84 (zaU) qy qk rfl rfl) rfl rfl ⟨rfl, rfl, rfl, trivial⟩ ?_
   refine jcV ?_
   refine ⟨m' - 1, qk, _, zad (fun o => bif Nat.beq o 100 then 35 else o) _ _ ?_ ?_ rfl, j + 1, qk, rfl⟩
   ·exact ja5
   ·exact ⟨⟨rfl, rfl⟩, ⟨by rw [← hpush]; rfl, rfl⟩, trivial⟩
  have hge : j = p.nets.length := by simp at h; omega
  clear h
  subst hge
  rw [← hnx]
  refine jcQ ?_
  refine ⟨m - 1, qk, _, zad id _ _ ?_ ?_ rfl, i + 1, qk, rfl⟩
  ·exact ja5
  ·refine ⟨⟨?_, rfl⟩, trivial⟩
   rw [show (zav ps (i + 1)).length = (zav ps i).length + p.nets.length by rw [hnx, qaC, zfX p (Nat.le_refl _)]]
   rfl
 have hge : i = ps.length := by simp at h; omega
 clear h
 subst hge
 have hT := hall ps.length (Nat.le_refl _)
 have hfew := zdC hg (Nat.le_refl ps.length)
 have hG := grown_s (zav ps ps.length).length (zav ps ps.length) (Nat.le_refl _) hT.k qk
 rw [show (zbm (zav ps ps.length).length (zav ps ps.length)).map toND = (tOf (zav ps ps.length)).list from hT.grown] at hG
 have hcl : (nds ((zav ps ps.length).map one)).length = (zav ps ps.length).length * 4 := by rw [zem, qaR]
 have hv := zen (tOf (zav ps ps.length)).list
 generalize nds (tOf (zav ps ps.length)).list = N1 at *
 generalize (tOf (zav ps ps.length)).list.length = n1 at *
 generalize nds ((zav ps ps.length).map one) = N0 at *
 generalize (zav ps ps.length).length = n0 at *
 refine G [4] ?_
 refine zbQ (fun n => 39 + 1000 * n) (hG) rfl rfl func50 rfl rfl qS qS rfl rfl rfl ql rfl rfl rfl ?_
 exact jcH
end Go.Proofs.YtlfjpippeeikdaaGreatDoor
