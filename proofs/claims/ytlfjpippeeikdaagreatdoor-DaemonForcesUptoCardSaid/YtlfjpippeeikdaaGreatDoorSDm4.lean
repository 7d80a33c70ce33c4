/- daemon.state, over data: the state of a peer behind a change of what is in force. -/
import Derived.Test.YtlfjpippeeikdaaGreatDoorSMo4
set_option linter.all false
namespace Go.Proofs.YtlfjpippeeikdaaGreatDoor
open Tryz
open Go.RowKit Go.Sort
set_option maxRecDepth 100000
set_option maxHeartbeats 16000000
theorem fn_nzA {P : Program} {f : FuncId} {args l r : List AV} {news : List (Nat × AObj)} (h : Fn P f args (.agg l) news) (k : nzL l r) : Fn P f args (.agg r) news := by
 intro w A us hA hG hu
 refine (h w A us hA hG hu).mono fun en w' ⟨v, he, S', m', h1, h2⟩ => ⟨v, he, S', m', ?_, h2⟩
 simp only [Rep] at h1 ⊢
 obtain ⟨us, rfl, h1, h3⟩ := h1
 exact ⟨us, rfl, zig k h1, h3⟩
def fcK (d : DM) (c : CF) (p was : PE) (s : ST) : ST :=
 { (if d.c.key = c.key ∧ was.sh = p.sh then s else (⟨p.key, p.ep, KY0, KY0, KY0, HS0, []⟩ : ST)) with key := p.key, ep := if was.ep = p.ep then s.ep else p.ep }
def fcS (d : DM) (c : CF) (p : PE) : ST :=
 match d.c.ps[peN p.key d.c.ps]?, d.ps[peN p.key d.c.ps]? with
 | some was, some s => fcK d c p was s
 | _, _ => ⟨p.key, p.ep, KY0, KY0, KY0, HS0, []⟩
def zstC (key ep : ByteArray) : List AV := [qc key, qc ep] ++ zcB KY0 KY0 KY0 ++ HS0.cells ++ [qj]
theorem zgL (key ep : ByteArray) : nzL (zstC key ep) (ST.cells ⟨key, ep, KY0, KY0, KY0, HS0, []⟩) := by
 have key : ∀ {l r : List AV}, l = r → nzL l r := by
  rintro l _ rfl
  induction l with
  | nil => exact trivial
  | cons x l ih => exact ⟨.inl rfl, ih⟩
 have app : ∀ {l : List AV} {a b : AV}, nzP a b → nzL (l ++ [a]) (l ++ [b]) := by
  intro l a b h
  induction l with
  | nil => exact ⟨h, trivial⟩
  | cons x l ih => exact ⟨.inl rfl, ih⟩
 exact app (.inr ⟨3, rfl, rfl⟩)
theorem state_none (d : DM) (ok : d.OK) (c : CF) (p : PE) (hp : ¬ peN p.key d.c.ps < d.c.ps.length) : Fn prog 17 [.agg d.cells, .agg c.cells, .agg p.cells] (.agg (ST.cells ⟨p.key, p.ep, KY0, KY0, KY0, HS0, []⟩)) [] := by
 have hF := zep d.c ok.c p.key
 rw [if_neg hp] at hF
 refine fn_nzA (l := zstC p.key p.ep) ?_ (zgL _ _)
 refine fnI fun w0 A => ?_
 refine G [15] ?_
 refine jcO ?_
 refine G [4] ?_
 refine jcL ?_
 refine G [2] ?_
 refine cK hF ?_
 refine G [15] ?_
 refine zab (zaf U60 rfl sz60 qo (show _ = zstC p.key p.ep from rfl)) rfl rfl ⟨rfl, trivial⟩ ?_
 refine jcO ?_
 refine G [2, 9, 0] ?_
 exact yE
theorem state_diff (d : DM) (ok : d.OK) (c : CF) (p was : PE) (ep : ByteArray) (a b c' : KY) (h : HS) (q : List PQ) (hw : d.c.ps[peN p.key d.c.ps]? = some was) (hs : d.ps[peN p.key d.c.ps]? = some ⟨p.key, ep, a, b, c', h, q⟩) (hx : ¬ (d.c.key = c.key ∧ was.sh = p.sh)) : Fn prog 17 [.agg d.cells, .agg c.cells, .agg p.cells] (.agg (ST.cells ⟨p.key, (if was.ep = p.ep then ep else p.ep), KY0, KY0, KY0, HS0, []⟩)) [] := by
 have hF := zep d.c ok.c p.key
 have hi := (qaG.1 hw).1
 have hi2 := (qaG.1 hs).1
 have hcn := ok.c.len
 have hpn := ok.psN
 rw [if_pos hi] at hF
 have hch := zaj (f := PE.pv) (k := 5) (fun _ => rfl) hw
 have hle := zak (f := PE.pv) (k := 5) (fun _ => rfl) hi
 have hep : (d.ps.flatMap ST.pv)[peN p.key d.c.ps * 41 + 1]? = some (qg ep) := fm_get (f := ST.pv) (k := 41) (fun _ => rfl) hs qw
 refine fn_nzA (l := zstC p.key (if was.ep = p.ep then ep else p.ep)) ?_ (zgL _ _)
 generalize peN p.key d.c.ps = i at *
 by_cases hk : d.c.key = c.key
 ·have hsh : ¬ was.sh = p.sh := fun e => hx ⟨hk, e⟩
  by_cases he : was.ep = p.ep
  ·rw [if_pos he]
   refine fnI fun w0 A => ?_
   refine G [15] ?_
   refine jcO ?_
   refine G [4] ?_
   refine jcL ?_
   refine G [2] ?_
   refine cK hF ?_
   refine G [10, 1, 10] ?_
   refine jc1 ?_
   refine jdR ?_
   refine jcY ?_
   refine G [9] ?_
   refine jdX ?_
   refine G [5] ?_
   refine jdY (zaO (c := false) (decide_eq_false hsh)) ?_
   refine G [10] ?_
   exact jaK
  rw [if_neg he]
  refine fnI fun w0 A => ?_
  refine G [15] ?_
  refine jcO ?_
  refine G [4] ?_
  refine jcL ?_
  refine G [2] ?_
  refine cK hF ?_
  refine G [10, 1, 10] ?_
  refine jc1 ?_
  refine jdR ?_
  refine jcY ?_
  refine G [9] ?_
  refine jdX ?_
  refine G [5] ?_
  refine jdY (zaO (c := false) (decide_eq_false hsh)) ?_
  refine G [10] ?_
  refine jdY (zah zcE rfl) ?_
  refine jc8 ?_
  refine fA zcE rfl rfl ?_
  refine jdQ ?_
  refine G [8, 4, 2] ?_
  skip
  refine G [4] ?_
  refine jdZ (zaS (es := (zstC p.key p.ep)) sz9 rfl rfl (qaA rfl) rfl) ?_
  refine G [3] ?_
  refine jdC ?_
  refine jcO ?_
  refine G [2, 9, 0] ?_
  exact yE
 by_cases he : was.ep = p.ep
 ·rw [if_pos he]
  refine fnI fun w0 A => ?_
  refine G [15] ?_
  refine jcO ?_
  refine G [4] ?_
  refine jcL ?_
  refine G [2] ?_
  refine cK hF ?_
  refine G [10, 1, 10] ?_
  refine jc1 ?_
  refine jdR ?_
  refine jcY ?_
  refine G [9] ?_
  refine jdY (zaO (c := false) (decide_eq_false hk)) ?_
  refine G [16] ?_
  exact jaK
 rw [if_neg he]
 refine fnI fun w0 A => ?_
 refine G [15] ?_
 refine jcO ?_
 refine G [4] ?_
 refine jcL ?_
 refine G [2] ?_
 refine cK hF ?_
 refine G [10, 1, 10] ?_
 refine jc1 ?_
 refine jdR ?_
 refine jcY ?_
 refine G [9] ?_
 refine jdY (zaO (c := false) (decide_eq_false hk)) ?_
 refine G [16] ?_
 refine jdY (zah zcE rfl) ?_
 refine jc8 ?_
 refine fA zcE rfl rfl ?_
 refine jdQ ?_
 refine G [8, 4, 2] ?_
 skip
 refine G [4] ?_
 refine jdZ (zaS (es := (zstC p.key p.ep)) sz9 rfl rfl (qaA rfl) rfl) ?_
 refine G [3] ?_
 refine jdC ?_
 refine jcO ?_
 refine G [2, 9, 0] ?_
 exact yE
theorem state_same (d : DM) (ok : d.OK) (c : CF) (p was : PE) (ep : ByteArray) (a b c' : KY) (h : HS) (q : List PQ) (hw : d.c.ps[peN p.key d.c.ps]? = some was) (hs : d.ps[peN p.key d.c.ps]? = some ⟨p.key, ep, a, b, c', h, q⟩) (hk : d.c.key = c.key) (hsh : was.sh = p.sh) : Fn prog 17 [.agg d.cells, .agg c.cells, .agg p.cells] (.agg (ST.cells ⟨p.key, (if was.ep = p.ep then ep else p.ep), a, b, c', h, q⟩)) [] := by
 have hF := zep d.c ok.c p.key
 have hi := (qaG.1 hw).1
 have hi2 := (qaG.1 hs).1
 have hcn := ok.c.len
 have hpn := ok.psN
 rw [if_pos hi] at hF
 have hch := zaj (f := PE.pv) (k := 5) (fun _ => rfl) hw
 have hle := zak (f := PE.pv) (k := 5) (fun _ => rfl) hi
 have hep : (d.ps.flatMap ST.pv)[peN p.key d.c.ps * 41 + 1]? = some (qg ep) := fm_get (f := ST.pv) (k := 41) (fun _ => rfl) hs qw
 have hT := tcopy_s [⟨p.key, ep, a, b, c', h, q⟩] (fun s' hs' => by rw [qbC.1 hs']; exact (ok.ps _ (qaE hs)).1) qz
 have hss : ((d.ps.flatMap ST.pv).drop (peN p.key d.c.ps * 41)).take (1 * 41) = [(⟨p.key, ep, a, b, c', h, q⟩ : ST)].flatMap ST.pv := by
  exact jcA
 have hone : [(⟨p.key, ep, a, b, c', h, q⟩ : ST)].flatMap ST.pv = ST.pv ⟨p.key, ep, a, b, c', h, q⟩ := by rw [qbb, qb9, qaV]
 rw [hone] at hT hss
 generalize peN p.key d.c.ps = i at *
 by_cases he : was.ep = p.ep
 ·rw [if_pos he]
  refine fnI fun w0 A => ?_
  refine G [15] ?_
  refine jcO ?_
  refine G [4] ?_
  refine jcL ?_
  refine G [2] ?_
  refine cK hF ?_
  refine G [10, 1, 10] ?_
  refine jc1 ?_
  refine jdR ?_
  refine jcY ?_
  refine G [9] ?_
  refine jdX ?_
  refine G [5] ?_
  refine jdY (zaO (c := true) (decide_eq_true hsh)) ?_
  refine G [3] ?_
  skip
  refine G [5] ?_
  refine zaa (zd8 (show _ = (i : Int) + 1 from qa6 _ qk)) rfl rfl ?_
  refine zaa (zdn (L := (some (_, _))) (H := (some (_, _))) U26 sz60 ⟨qk, (show _ = i by omega)⟩ ⟨qk, (show _ = i + 1 by omega)⟩ qk qk (show _ = 1 by omega) hss) rfl rfl ?_
  refine cK hT ?_
  refine jdx ?_
  refine zab (zd2 (cs := ST.pv ⟨p.key, ep, a, b, c', h, q⟩) (off := 0) (es := ST.pv ⟨p.key, ep, a, b, c', h, q⟩) U60 rfl sz60 (show 0 + 41 ≤ 41 by decide) rfl) rfl rfl ⟨rfl, trivial⟩ ?_
  refine jdt ?_
  refine G [7] ?_
  refine jdY (zah zcE rfl) ?_
  refine jc8 ?_
  refine fA zcE rfl rfl ?_
  refine jdZ (zaS (es := (stC p.key ep a b c' h q.length (q.flatMap PQ.pv))) sz9 rfl rfl (qaA rfl) rfl) ?_
  refine G [8, 3, 5] ?_
  refine zab (zaf U60 rfl sz60 qo (show _ = (stC p.key ep a b c' h q.length (q.flatMap PQ.pv)) from rfl)) rfl rfl ⟨rfl, trivial⟩ ?_
  refine jdt ?_
  refine G [2, 9, 0] ?_
  exact yE
 rw [if_neg he]
 refine fnI fun w0 A => ?_
 refine G [15] ?_
 refine jcO ?_
 refine G [4] ?_
 refine jcL ?_
 refine G [2] ?_
 refine cK hF ?_
 refine G [10, 1, 10] ?_
 refine jc1 ?_
 refine jdR ?_
 refine jcY ?_
 refine G [9] ?_
 refine jdX ?_
 refine G [5] ?_
 refine jdY (zaO (c := true) (decide_eq_true hsh)) ?_
 refine G [3] ?_
 skip
 refine G [5] ?_
 refine zaa (zd8 (show _ = (i : Int) + 1 from qa6 _ qk)) rfl rfl ?_
 refine zaa (zdn (L := (some (_, _))) (H := (some (_, _))) U26 sz60 ⟨qk, (show _ = i by omega)⟩ ⟨qk, (show _ = i + 1 by omega)⟩ qk qk (show _ = 1 by omega) hss) rfl rfl ?_
 refine cK hT ?_
 refine jdx ?_
 refine zab (zd2 (cs := ST.pv ⟨p.key, ep, a, b, c', h, q⟩) (off := 0) (es := ST.pv ⟨p.key, ep, a, b, c', h, q⟩) U60 rfl sz60 (show 0 + 41 ≤ 41 by decide) rfl) rfl rfl ⟨rfl, trivial⟩ ?_
 refine jdt ?_
 refine G [7] ?_
 refine jdY (zah zcE rfl) ?_
 refine jc8 ?_
 refine fA zcE rfl rfl ?_
 refine jdZ (zaS (es := (stC p.key ep a b c' h q.length (q.flatMap PQ.pv))) sz9 rfl rfl (qaA rfl) rfl) ?_
 refine G [8, 4, 2] ?_
 skip
 refine G [4] ?_
 refine jdZ (zaS (es := (stC p.key p.ep a b c' h q.length (q.flatMap PQ.pv))) sz9 rfl rfl (qaA rfl) rfl) ?_
 refine G [3] ?_
 refine zab (zaf U60 rfl sz60 qo (show _ = (stC p.key p.ep a b c' h q.length (q.flatMap PQ.pv)) from rfl)) rfl rfl ⟨rfl, trivial⟩ ?_
 refine jdZ (zac (Y := .agg (stC p.key p.ep a b c' h q.length (q.flatMap PQ.pv))) sz60 rfl rfl (qaB rfl)) ?_
 refine G [2, 9, 0] ?_
 exact yE
theorem peN_hit {k : ByteArray} : ∀ {l : List PE} {w : PE}, l[peN k l]? = some w → w.key = k
 | [], w, h => by cases h
 | x :: l, w, h => by
  unfold peN at h
  by_cases e : x.key = k
  ·rw [if_pos e] at h
   cases h
   exact e
  ·rw [if_neg e] at h
   exact peN_hit (l := l) h
theorem state_s (d : DM) (ok : d.OK) (c : CF) (p : PE) (hl : d.ps.length = d.c.ps.length) (hk : ∀ (i : Nat) (w : PE) (s : ST), d.c.ps[i]? = some w → d.ps[i]? = some s → s.key = w.key) : Fn prog 17 [.agg d.cells, .agg c.cells, .agg p.cells] (.agg (fcS d c p).cells) [] := by
 by_cases hi : peN p.key d.c.ps < d.c.ps.length
 ·obtain ⟨was, hw⟩ : ∃ was, d.c.ps[peN p.key d.c.ps]? = some was := ⟨_, List.getElem?_eq_getElem hi⟩
  obtain ⟨s, hs⟩ : ∃ s, d.ps[peN p.key d.c.ps]? = some s := ⟨_, List.getElem?_eq_getElem (by rw [hl]; exact hi)⟩
  have h1 := hk _ _ _ hw hs
  rw [peN_hit hw] at h1
  obtain ⟨key, ep, a, b, c', h, q⟩ := s
  dsimp only at h1
  subst h1
  unfold fcS
  rw [hw, hs]
  dsimp only
  unfold fcK
  by_cases hx : d.c.key = c.key ∧ was.sh = p.sh
  ·rw [if_pos hx]
   exact state_same d ok c p was ep a b c' h q hw hs hx.1 hx.2
  ·rw [if_neg hx]
   exact state_diff d ok c p was ep a b c' h q hw hs hx
 ·have hn : d.c.ps[peN p.key d.c.ps]? = none := qbO qk
  unfold fcS
  rw [hn]
  exact state_none d ok c p hi
theorem zcq {a b c : KY} : a.vals ++ b.vals ++ c.vals = KY0.vals ++ KY0.vals ++ KY0.vals ↔ (a = KY0 ∧ b = KY0 ∧ c = KY0) := by
 constructor
 ·intro h3
  obtain ⟨h6, h7⟩ := List.append_inj h3 rfl
  obtain ⟨h8, h9⟩ := List.append_inj h6 rfl
  exact ⟨KY.eqL_iff.1 (zaP.2 h8), KY.eqL_iff.1 (zaP.2 h9), KY.eqL_iff.1 (zaP.2 h7)⟩
 ·rintro ⟨rfl, rfl, rfl⟩
  rfl
def er3 (a b c : Int) (i : Nat) : Int := if i = 0 then a else if i = 1 then b else c
theorem er3_at (a b c : Int) (i : Nat) (h : i < 3) : ([qd a, qd b, qd c] : List AV)[i * 1]? = some (qd (er3 a b c i)) := by
 exact jcE
theorem dmCheck_s (d : DM) (ok : d.OK) : Fn prog 14 [.agg d.cells] (qd (dmE d)) [] := by
 have hC := zbT d.c ok.c
 have hS := tabCheck_s d.ps (fun s hs => (ok.ps s hs).1) ok.psN
 have hG := sgCheck_s d.sg ok.sg
 have hM := tmost_s d.ps ok.psN
 have hT := fun h0 => ctree_s d.c ok.c h0
 have hK := keys_d d.ps d.c.ps ok.psN ok.c.len
 have hQ := fun h : (tOf (zav d.c.ps d.c.ps.length)).list.length ≤ 4611686018427387904 => eqNodes_d (tOf (zav d.c.ps d.c.ps.length)).list d.tree h (by have := ok.treeN; omega)
 have hfew : cfE d.c = 0 → (tOf (zav d.c.ps d.c.ps.length)).list.length ≤ 4611686018427387904 := fun h0 => by
  exact jbY
 have hn := ok.psN
 have hvT := fun h : Unit => zen (tOf (zav d.c.ps d.c.ps.length)).list
 obtain ⟨E, hE⟩ : ∃ E, dmE d = E := ⟨_, rfl⟩
 rw [hE]
 unfold dmE zg4 goodD at hE
 generalize cfE d.c = e0 at *
 generalize stsE d.ps = e1' at *
 generalize sgE d.sg = e2 at *
 generalize mostD d.ps = mo at *
 clear ok
 obtain ⟨⟨k1, p1, q1⟩, t1, s1, ⟨v1, r1, ⟨sk1, sp1, sq1⟩, a1, e1⟩, g1, w1, l1'⟩ := d
 dsimp only at hC hS hG hM hT hK hQ hfew hn hE hvT
 generalize (tOf (zav q1 q1.length)).list = TL at *
 change Fn prog _ [.agg [qc k1, qd p1, .p (.sl q1.length 5 (q1.flatMap PE.pv))]] _ _ at hC
 change ∀ h0, Fn prog _ [.agg [qc k1, qd p1, .p (.sl q1.length 5 (q1.flatMap PE.pv))]] _ _ at hT
 change Fn prog _ [.agg (sgV v1 (sesV r1) sk1 sp1 (CF.row ⟨sk1, sp1, sq1⟩) a1 e1)] _ _ at hG
 change ∀ h, Fn prog _ [.p (.sl TL.length 4 (nds TL)), .p (ndsV t1)] _ _ at hQ
 show Fn prog _ [.agg (dmC k1 p1 (.sl q1.length 5 (q1.flatMap PE.pv)) (ndsV t1) (.sl s1.length 41 (s1.flatMap ST.pv)) v1 (sesV r1) sk1 sp1 (CF.row ⟨sk1, sp1, sq1⟩) a1 e1 g1 w1 l1')] _ _
 generalize CF.row ⟨sk1, sp1, sq1⟩ = SQ1 at *
 generalize sesV r1 = R1 at *
 have hv := hvT ()
 clear hvT
 have hcT : (nds TL).length = TL.length * 4 := zem TL
 have heqB : eqB TL t1 = true ↔ TL = t1 := zgb
 generalize hkb : zgx s1 q1 = kb at *
 generalize hqb : eqB TL t1 = qb at *
 generalize ndsV t1 = T1 at *
 generalize q1.flatMap PE.pv = QL at *
 generalize q1.length = qn at *
 generalize nds TL = TN at *
 generalize TL.length = tn at *
 refine fnI fun w0 A => ?_
 refine G [10] ?_
 refine cK hC ?_
 refine G [2] ?_
 refine cK hS ?_
 refine G [2] ?_
 refine cK hG ?_
 refine zaa (xs := [qd e0, qd e1', qd e2]) (zfI (es := [qd e0, qd e1', qd e2]) underlying76 zr76 rfl sz28 qm) qH rfl ?_
 refine G [3] ?_
 refine zae (fun m st => ∃ i : Nat, m + i = 3 ∧ (∀ j, j < i → er3 e0 e1' e2 j = 0) ∧ st = St.of [(1, .ref 1 0), (19, .agg [qd e0, qd e1', qd e2]), (20, qd i)] [(1, .box 32 (dmC k1 p1 (.sl qn 5 QL) T1 (.sl s1.length 41 (s1.flatMap ST.pv)) v1 R1 sk1 sp1 SQ1 a1 e1 g1 w1 l1'))]) 3 ?_ ?_
 ·exact jaw
 rintro m st ⟨i, hi, hf, rfl⟩
 refine G [5] ?_
 refine cX ?_ ?_ <;> intro h
 ·have hlt : i < 3 := by simp at h; omega
  clear h
  have hix := er3_at e0 e1' e2 i hlt
  have hbad : er3 e0 e1' e2 i ≠ 0 → E = er3 e0 e1' e2 i := by
   intro hne
   match i, hlt with
   | 0, _ => rw [if_pos (show e0 ≠ 0 from hne)] at hE; exact hE.symm
   | 1, _ =>
    have z0 : e0 = 0 := hf 0 qk
    rw [if_neg (by rw [z0]; simp), if_pos (show e1' ≠ 0 from hne)] at hE; exact hE.symm
   | 2, _ =>
    have z0 : e0 = 0 := hf 0 qk
    have z1 : e1' = 0 := hf 1 qk
    rw [if_neg (by rw [z0]; simp), if_neg (by rw [z1]; simp), if_pos (show e2 ≠ 0 from hne)] at hE; exact hE.symm
  generalize hee : er3 e0 e1' e2 i = ee at *
  refine G [5] ?_
  refine zaa (zfH underlying76 sz28 underlying28 rfl qk qk (show _ = some (qd ee) by rw [qaS]; exact hix)) rfl rfl ?_
  refine jcS ?_
  refine cX ?_ ?_ <;> intro h
  ·have h7 : ee ≠ 0 := by simpa using h
   rw [hbad h7]
   refine jcV ?_
   exact yE
  have h7 : ee = 0 := by simpa using h
  clear h
  refine jcQ ?_
  refine ⟨m - 1, qk, _, zad id _ _ ?_ ?_ rfl, i + 1, qk, fun j hj => ?_, rfl⟩
  ·exact ja5
  ·exact ⟨⟨rfl, rfl⟩, trivial⟩
  ·by_cases e : j = i
   ·rw [e, hee]; exact h7
   ·exact hf j qk
 have hge : i = 3 := by simp at h; omega
 clear h
 subst hge
 have z0 : e0 = 0 := hf 0 qk
 have z1 : e1' = 0 := hf 1 qk
 have z2 : e2 = 0 := hf 2 qk
 rw [if_neg (by rw [z0]; simp), if_neg (by rw [z1]; simp), if_neg (by rw [z2]; simp)] at hE
 have hT := hT z0
 have hQ := hQ (hfew z0)
 clear hf hfew hC hS hG z0 z1 z2
 refine G [11, 2, 4, 2, 4, 2, 5] ?_
 refine mb2 _ rfl rfl (fun _ => zbl func36 rfl rfl (hM) qr rfl) (fun _ => trivial) ?_
 refine G [1, 2, 4, 2, 1, 9, 0] ?_
 refine cX ?_ ?_ <;> intro h
 ·have h1 : g1 < 0 ∨ 1099511627776 < g1 ∨ w1 < 0 ∨ 1099511627776 < w1 ∨ l1' < mo ∨ 4294967235 < l1' := by
   simp at h
   simp only [or_assoc] at h
   exact h
  exact jbK
 have h1 : ¬ (g1 < 0 ∨ 1099511627776 < g1 ∨ w1 < 0 ∨ 1099511627776 < w1 ∨ l1' < mo ∨ 4294967235 < l1') := by
  simp at h
  omega
 clear h
 rw [if_neg h1] at hE
 refine G [5] ?_
 refine cK hT ?_
 refine G [13] ?_
 refine cK hK ?_
 refine G [2] ?_
 by_cases hq : qb = true ∧ kb = true
 rotate_left
 ·have hng : ¬ ((TL = t1 ∧ kb = true) ∧ ∀ s ∈ s1, okSt k1 w1 s) := fun h => hq ⟨heqB.2 h.1.1, h.1.2⟩
  rw [if_neg hng] at hE
  subst hE
  refine G [6] ?_
  refine cV hQ ?_
  refine G [4, 2, 1, 9, 0] ?_
  refine cX ?_ ?_ <;> intro h
  ·refine jcQ ?_
   exact yE
  ·exact absurd qG hq
 obtain ⟨hq1, hq2⟩ := hq
 subst hq1 hq2
 refine G [6] ?_
 refine cV hQ ?_
 refine jcV ?_
 refine cX ?_ ?_ <;> intro h
 ·cases h
 refine G [10] ?_
 refine zae (fun m st => ∃ i : Nat, m + i = s1.length ∧ (∀ j, j < i → ∀ s, s1[j]? = some s → okSt k1 w1 s) ∧ st = St.of [(1, .ref 1 0), (80, .p (.sl s1.length 41 (s1.flatMap ST.pv))), (81, qd s1.length), (82, qd i)] [(1, .box 32 (dmC k1 p1 (.sl qn 5 QL) T1 (.sl s1.length 41 (s1.flatMap ST.pv)) v1 R1 sk1 sp1 SQ1 a1 e1 g1 w1 l1'))]) s1.length ?_ ?_
 ·exact jaw
 rintro m st ⟨i, hi, hf, rfl⟩
 refine G [5] ?_
 refine cX ?_ ?_ <;> intro h
 ·have hlt : i < s1.length := by simp at h; omega
  clear h
  obtain ⟨x, hx⟩ : ∃ x, s1[i]? = some x := ⟨s1[i], List.getElem?_eq_getElem hlt⟩
  have hch := zaj (f := ST.pv) (k := 41) (fun _ => rfl) hx
  have hle := zak (f := ST.pv) (k := 41) (fun _ => rfl) hlt
  have hmem := qaE hx
  have hbad : ¬ okSt k1 w1 x → E = 14 := fun hno => by
   rw [if_neg (fun h => hno (h.2 x hmem))] at hE
   exact hE.symm
  generalize s1.flatMap ST.pv = L at *
  obtain ⟨key, ep, a, b, c, ⟨lv, mine, nc, hb, hs⟩, q⟩ := x
  refine G [8] ?_
  refine jdZ (zac (Y := .agg (stC key ep a b c ⟨lv, mine, nc, hb, hs⟩ q.length (q.flatMap PQ.pv))) sz60 rfl rfl (qaB rfl)) ?_
  refine zag ?_
  by_cases hk : k1 = ⟨#[]⟩
  ·by_cases hz : a = KY0 ∧ b = KY0 ∧ c = KY0
   ·cases lv with
    | true =>
     rw [hbad (fun h => h (.inl ⟨hk, .inr rfl⟩))]
     refine G [5] ?_
     refine jdY (zaO (c := true) (decide_eq_true hk)) ?_
     refine G [2] ?_
     refine zab (zaf U55 rfl sz55 qo (show _ = zcB a b c from rfl)) rfl rfl ⟨rfl, trivial⟩ ?_
     refine jdY (zcs pl55 zr55 rfl rfl) ?_
     refine zaa (zao U55 (xs := a.vals ++ b.vals ++ c.vals) (ys := KY0.vals ++ KY0.vals ++ KY0.vals) rfl rfl qm qm qm (c := false) qat) rfl rfl ?_
     refine G [21, 9, 0] ?_
     exact yE
    | false =>
     by_cases ht : w1 < hs
     ·rw [hbad (fun h => h (.inr ht))]
      refine G [5] ?_
      refine jdY (zaO (c := true) (decide_eq_true hk)) ?_
      refine G [2] ?_
      refine zab (zaf U55 rfl sz55 qo (show _ = zcB a b c from rfl)) rfl rfl ⟨rfl, trivial⟩ ?_
      refine jdY (zcs pl55 zr55 rfl rfl) ?_
      refine zaa (zao U55 (xs := a.vals ++ b.vals ++ c.vals) (ys := KY0.vals ++ KY0.vals ++ KY0.vals) rfl rfl qm qm qm (c := false) qat) rfl rfl ?_
      refine G [12, 4, 8, 9, 0] ?_
      exact yE
     ·have HOK : okSt k1 w1 ⟨key, ep, a, b, c, ⟨false, mine, nc, hb, hs⟩, q⟩ := by
       rintro (⟨_, h | h⟩ | h)
       ·exact h hz
       ·cases h
       ·exact ht h
      refine G [5] ?_
      refine jdY (zaO (c := true) (decide_eq_true hk)) ?_
      refine G [2] ?_
      refine zab (zaf U55 rfl sz55 qo (show _ = zcB a b c from rfl)) rfl rfl ⟨rfl, trivial⟩ ?_
      refine jdY (zcs pl55 zr55 rfl rfl) ?_
      refine zaa (zao U55 (xs := a.vals ++ b.vals ++ c.vals) (ys := KY0.vals ++ KY0.vals ++ KY0.vals) rfl rfl qm qm qm (c := false) qat) rfl rfl ?_
      refine G [12, 3, 8, 9, 0] ?_
      refine ⟨m - 1, qk, _, zad id _ _ ?_ ?_ rfl, i + 1, qk, fun j hj s hs => ?_, rfl⟩
      ·(repeat (first | exact trivial | (refine ⟨⟨qu, rfl⟩, ?_⟩)))
      ·exact ⟨⟨rfl, rfl⟩, trivial⟩
      ·by_cases e : j = i
       ·subst e; rw [hx] at hs; cases hs; exact HOK
       ·exact hf j qk s hs
   ·rw [hbad (fun h => h (.inl ⟨hk, .inl hz⟩))]
    refine G [5] ?_
    refine jdX ?_
    refine G [2] ?_
    refine zab (zaf U55 rfl sz55 qo (show _ = zcB a b c from rfl)) rfl rfl ⟨rfl, trivial⟩ ?_
    refine jdY (zcs pl55 zr55 rfl rfl) ?_
    refine zaa (zao U55 (xs := a.vals ++ b.vals ++ c.vals) (ys := KY0.vals ++ KY0.vals ++ KY0.vals) rfl rfl qm qm qm (c := true) (by rw [zdH.2 (fun e => hz (zcq.1 e))]; rfl)) rfl rfl ?_
    refine G [21, 9, 0] ?_
    exact yE
  ·by_cases ht : w1 < hs
   ·rw [hbad (fun h => h (.inr ht))]
    refine G [5] ?_
    refine jdY (zaO (c := false) (decide_eq_false hk)) ?_
    refine G [17, 4, 8, 9, 0] ?_
    exact yE
   ·have HOK : okSt k1 w1 ⟨key, ep, a, b, c, ⟨lv, mine, nc, hb, hs⟩, q⟩ := by
     rintro (⟨h, _⟩ | h)
     ·exact hk h
     ·exact ht h
    refine G [5] ?_
    refine jdY (zaO (c := false) (decide_eq_false hk)) ?_
    refine G [17, 3, 8, 9, 0] ?_
    refine ⟨m - 1, qk, _, zad id _ _ ?_ ?_ rfl, i + 1, qk, fun j hj s hs => ?_, rfl⟩
    ·exact ja5
    ·exact ⟨⟨rfl, rfl⟩, trivial⟩
    ·by_cases e : j = i
     ·subst e; rw [hx] at hs; cases hs; exact HOK
     ·exact hf j qk s hs
 have hge : i = s1.length := by simp at h; omega
 clear h
 subst hge
 have hall : ∀ s ∈ s1, okSt k1 w1 s := fun s hs => by
  obtain ⟨j, hj, rfl⟩ := List.getElem_of_mem hs
  exact hf j hj _ (List.getElem?_eq_getElem hj)
 rw [if_pos ⟨⟨heqB.1 rfl, rfl⟩, hall⟩] at hE
 subst hE
 refine jcV ?_
 exact yE
end Go.Proofs.YtlfjpippeeikdaaGreatDoor
