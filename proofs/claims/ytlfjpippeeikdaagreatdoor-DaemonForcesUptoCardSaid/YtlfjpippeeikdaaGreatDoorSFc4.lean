/- daemon.Commit, over data. -/
import Derived.Test.YtlfjpippeeikdaaGreatDoorSDm5
import Derived.Test.YtlfjpippeeikdaaGreatDoorSSv4
set_option linter.all false
namespace Go.Proofs.YtlfjpippeeikdaaGreatDoor
open Tryz
open Go.RowKit Go.Sort
set_option maxHeartbeats 16000000
set_option maxRecDepth 100000
theorem zdR {st : St} (o : Nat) {ty : TypeId} {cs cs' : List AV} (hq : st.heap o = .live (.box ty cs)) (k : nzL cs cs') : Re st (st.upd [(o, .live (.box ty cs'))]) := by
 rintro w0 A nt a w ⟨⟨S, m, hm, hj, hr⟩, hsz, hd⟩
 refine ⟨⟨S, m, ?_, hj, hr⟩, hsz, hd⟩
 have key : ∀ x, x ≠ o → (st.upd [(o, .live (.box ty cs'))]).heap x = st.heap x := fun x hx => by simp [St.upd, updL, nbeq hx]
 have key0 : (st.upd [(o, .live (.box ty cs'))]).heap o = .live (.box ty cs') := by simp [St.upd, updL]
 have kl : ∀ x ob, (st.upd [(o, .live (.box ty cs'))]).heap x = .live ob → ∃ ob', st.heap x = .live ob' := fun x ob hx => by
  by_cases e1 : x = o
  ·subst e1; exact ⟨_, hq⟩
  ·exact ⟨ob, by rw [← key x e1]; exact hx⟩
 refine ⟨hm.bel, hm.sA, hm.sW, fun x hx => ?_, fun x ob hx => ?_, fun x x' ob ob' v v' b hx hx' hv hv' hb hb' => ?_, hm.gl⟩
 ·by_cases e1 : x = o
  ·subst e1; rw [key0] at hx; cases hx
  ·exact hm.un x (by rw [← key x e1]; exact hx)
 ·by_cases e1 : x = o
  ·subst e1
   rw [key0] at hx
   cases hx
   obtain ⟨v, h1, ⟨b, us, q1, q2, q3, q4, q5⟩, h3⟩ := hm.live x _ hq
   exact ⟨v, h1, ⟨b, us, q1, q2, zig k q3, q4, q5⟩, h3⟩
  ·exact hm.live x ob (by rw [← key x e1]; exact hx)
 ·obtain ⟨o1, k1⟩ := kl x ob hx
  obtain ⟨o2, k2⟩ := kl x' ob' hx'
  exact hm.inj x x' o1 o2 v v' b k1 k2 hv hv' hb hb'
noncomputable def zea (c : CF) : List ND := if cfE c = 0 then (tOf (zav c.ps c.ps.length)).list else []
theorem tree_bad {f : FuncId} {args : List AV} {e : Int} (he : e ≠ 0) (h : Fn prog f args (nRes e) (nNew e [])) : Fn prog f args (.tup [.p (ndsV []), qd e]) [] := by
 obtain ⟨e1, e2⟩ := zeB he []
 rw [e1, e2] at h
 exact fn_nzT h ⟨.inl (.inr ⟨4, rfl, rfl⟩), .inl (.inl rfl), trivial⟩
theorem ctreeD_s (c : CF) (ok : c.OK) : Fn prog 16 [.agg c.cells] (.tup [.p (ndsV (zea c)), qd (cfE c)]) [] := by
 unfold zea
 by_cases h0 : cfE c = 0
 ·rw [if_pos h0, h0]; exact fn_fz (ctree_s c ok h0) rfl rfl
 ·rw [if_neg h0]; exact tree_bad h0 (ctree_bad c ok h0)
theorem rtreeD_s (c : CF) (ok : c.OK) : Fn prog 21 [.agg c.cells] (.tup [.p (ndsV (zea c)), qd (cfE c)]) [] := by
 unfold zea
 by_cases h0 : cfE c = 0
 ·rw [if_pos h0, h0]; exact fn_fz (rtree_s c ok h0) rfl rfl
 ·rw [if_neg h0]; exact tree_bad h0 (rtree_bad c ok h0)
theorem treeD_few (c : CF) (ok : c.OK) : (zea c).length * 40 ≤ 140737488351232 := by
 unfold zea
 by_cases h0 : cfE c = 0
 ·rw [if_pos h0]
  have hg := zhr h0
  have h1 := (zfL hg (fun p hp => (ok.ps p hp).1) c.ps.length (Nat.le_refl _)).l
  have h2 := zdC hg (Nat.le_refl c.ps.length)
  have h6 := hg.n6
  omega
 ·rw [if_neg h0]; exact qbk _
noncomputable def fcD (d : DM) : DM := ⟨(sxE d.sg).1, zea (sxE d.sg).1, (sxE d.sg).1.ps.map (fcS d (sxE d.sg).1), dm0.sg, d.gen + 1, d.now, d.last⟩
noncomputable def fcE (d : DM) : DM × Int := if dmE d ≠ 0 then (dm0, dmE d) else if (sxE d.sg).2 ≠ 0 then (dm0, (sxE d.sg).2) else if d.gen = 1099511627776 then (dm0, 4) else (fcD d, 0)
def fcV (b : DM × Int) : AV := .tup [.agg b.1.cells, qd b.2]
theorem zga {f : FuncId} {args : List AV} {e : Int} (h : Fn prog f args (.tup [.agg zdmC, qd e]) []) : Fn prog f args (fcV (dm0, e)) [] := fn_nzT h ⟨.inr ⟨_, _, rfl, rfl, zdm_nz⟩, .inl (.inl rfl), trivial⟩
theorem fcS_ok {d : DM} (ok : d.OK) {c : CF} {p : PE} (hp : p.OK) : (fcS d c p).OK ∧ (fcS d c p).B := by
 have hz : (⟨p.key, p.ep, KY0, KY0, KY0, HS0, []⟩ : ST).OK ∧ (⟨p.key, p.ep, KY0, KY0, KY0, HS0, []⟩ : ST).B :=
  ⟨⟨hp.ep, KY0.ok, KY0.ok, KY0.ok, qbk _, fun x h => by cases h⟩, qbk _, fun x h => by cases h⟩
 unfold fcS
 split
 ·rename_i was s h1 h2
  have hs := ok.ps s (qaE h2)
  have he : (if was.ep = p.ep then s.ep else p.ep).size < 4294967281 := by split; exact hs.1.ep; exact hp.ep
  unfold fcK
  split
  ·exact ⟨⟨he, hs.1.a, hs.1.b, hs.1.c, hs.1.q, hs.1.qx⟩, hs.2⟩
  ·exact ⟨⟨he, hz.1.a, hz.1.b, hz.1.c, hz.1.q, hz.1.qx⟩, hz.2⟩
 ·exact hz
theorem fc_keys {d : DM} (h : dmE d = 0) : d.ps.length = d.c.ps.length ∧ ∀ (i : Nat) (w : PE) (s : ST), d.c.ps[i]? = some w → d.ps[i]? = some s → s.key = w.key := by
 obtain ⟨h1, h2, h3, h4, h5⟩ := dm_good h
 have hk := of_decide_eq_true h5.1.2
 refine ⟨by have := congrArg List.length hk; simpa using this, fun i w s hw hs => ?_⟩
 have := congrArg (fun z : List ByteArray => z[i]?) hk
 simpa [hw, hs] using this
theorem fm_snoc {l : List PE} {i : Nat} {x : PE} (h : l[i]? = some x) (f : PE → ST) : ((l.take (i + 1)).map f).flatMap ST.pv = ((l.take i).map f).flatMap ST.pv ++ (f x).pv := by
 rw [List.take_add_one, h]
 simp
def cmC (c : CF) (T S R Q : AV) (g w l : Int) : List AV := [qc c.key, qd c.port, .p c.row, T, S, qf false, R, qc ⟨#[]⟩, qd 0, Q, qc ⟨#[]⟩, qd 0, qd g, qd w, qd l]
def nlA : AV := qj
theorem commit_s (d : DM) (ok : d.OK) : Fn prog 5 [.agg d.cells] (fcV (fcE d)) [] := by
 have hC := dmCheck_s d ok
 have hG := fn_en sxE_e (sgEnd_s d.sg ok.sg)
 have hoc := sxE_ok ok.sg
 unfold fcE
 by_cases h0 : dmE d ≠ 0
 ·exact ja4
 rw [if_neg h0]
 have h0 : dmE d = 0 := qaH.1 h0
 rw [h0] at hC
 have hD : fcD d = ⟨(sxE d.sg).1, zea (sxE d.sg).1, (sxE d.sg).1.ps.map (fcS d (sxE d.sg).1), dm0.sg, d.gen + 1, d.now, d.last⟩ := rfl
 rw [hD]
 clear hD
 obtain ⟨⟨c, e⟩, hce⟩ : ∃ x, sxE d.sg = x := ⟨_, rfl⟩
 rw [hce] at hG hoc ⊢
 dsimp only at hoc ⊢
 change Fn _ _ _ (.tup [.agg c.cells, qd e]) _ at hG
 clear hce
 by_cases h1 : e ≠ 0
 ·exact jaJ
 rw [if_neg h1]
 have h1 : e = 0 := qaH.1 h1
 subst h1
 by_cases h2 : d.gen = 1099511627776
 ·exact jaH
 rw [if_neg h2]
 have hT := ctreeD_s c hoc
 have hK := fc_keys h0
 have hS := fun p => state_s d ok c p hK.1 hK.2
 have hcl := hoc.len
 have hgen : 0 ≤ d.gen ∧ d.gen ≤ 1099511627776 := by
  have := (dm_good h0).2.2.2.1
  unfold zg4 at this
  omega
 have hcp : Fn prog 18 [.agg (DM.cells ⟨c, zea c, c.ps.map (fcS d c), dm0.sg, d.gen + 1, d.now, d.last⟩)] (.agg (DM.cells ⟨c, zea c, c.ps.map (fcS d c), dm0.sg, d.gen + 1, d.now, d.last⟩)) [] := by
  refine fn_fz (dmCopyP_s _ hoc (treeD_few c hoc) (fun s hs => ?_) (by simpa using hcl) dm0_ok.sg) rfl rfl
  obtain ⟨p, hp, rfl⟩ := qaJ.1 hs
  exact (fcS_ok ok (hoc.ps p hp).1).1
 change Fn _ _ [.agg (cmC c (.p (ndsV (zea c))) (.p (.sl (c.ps.map (fcS d c)).length 41 ((c.ps.map (fcS d c)).flatMap ST.pv))) (.p (.sl 0 5 [])) (.p (.sl 0 5 [])) (d.gen + 1) d.now d.last)] (.agg (cmC c (.p (ndsV (zea c))) (.p (.sl (c.ps.map (fcS d c)).length 41 ((c.ps.map (fcS d c)).flatMap ST.pv))) (.p (.sl 0 5 [])) (.p (.sl 0 5 [])) (d.gen + 1) d.now d.last)) _ at hcp
 refine jds ?_
 rw [qaR] at hcp ⊢
 clear hK h0 hoc
 generalize zea c = T at *
 generalize cfE c = ce at *
 refine fnI fun w0 A => ?_
 refine G [9] ?_
 refine jcW ?_
 refine cK hC ?_
 refine G [5, 1, 6] ?_
 refine jc2 ?_
 refine cK hG ?_
 refine G [4] ?_
 refine jdz ?_
 refine G [6, 1, 8, 3, 5] ?_
 refine jc4 ?_
 refine G [2] ?_
 refine zaa (zd8 (show _ = d.gen + 1 from qa6 _ qk)) rfl rfl ?_
 refine G [6] ?_
 refine jdZ (zac (Y := .agg (cmC c nlA nlA nlA nlA (d.gen + 1) d.now d.last)) sz32 rfl rfl (qaB rfl)) ?_
 refine G [3] ?_
 refine jc4 ?_
 refine cK hT ?_
 refine G [4] ?_
 refine jdZ (zaS (Y := .p (ndsV T)) (es := cmC c (.p (ndsV T)) nlA nlA nlA (d.gen + 1) d.now d.last) sz25 rfl rfl (qaA rfl) rfl) ?_
 refine zag (zaE (zaH (zii 7 4 60 60 41 rfl rfl rfl) ?_))
 refine G [9] ?_
 refine zae (fun m st => ∃ i : Nat, m + i = c.ps.length ∧ st = St.of [(1, .ref 1 0), (2, .ref 2 0), (5, .ref 5 0), (7, .ref 7 0), (46, .p c.row), (47, qd c.ps.length), (48, qd i)] [(1, .box 32 d.cells), (2, .box 32 zdmC), (5, .box 24 c.cells), (7, .box 32 (cmC c (.p (ndsV T)) (.row 60) nlA nlA (d.gen + 1) d.now d.last)), (60, .row 60 41 i (((c.ps.take i).map (fcS d c)).flatMap ST.pv))]) c.ps.length ?_ ?_
 ·exact jbr
 rintro m st ⟨i, hi, rfl⟩
 refine G [5] ?_
 refine cX ?_ ?_ <;> intro h
 ·have hlt : i < c.ps.length := by simp at h; omega
  clear h
  obtain ⟨p, hp⟩ : ∃ p, c.ps[i]? = some p := ⟨c.ps[i], List.getElem?_eq_getElem hlt⟩
  have hch := zaj (f := PE.pv) (k := 5) (fun _ => rfl) hp
  have hle := zak (f := PE.pv) (k := 5) (fun _ => rfl) hlt
  have hst := hS p
  have hnx := fm_snoc hp (fcS d c)
  generalize hs' : fcS d c p = s at *
  generalize hL0 : ((c.ps.take i).map (fcS d c)).flatMap ST.pv = L0 at *
  generalize hL1 : ((c.ps.take (i + 1)).map (fcS d c)).flatMap ST.pv = L1 at *
  refine G [6] ?_
  refine jc1 ?_
  refine jdV ?_
  refine jcZ ?_
  refine G [4] ?_
  refine jcW ?_
  refine jc4 ?_
  refine jdn ?_
  refine cK hst ?_
  refine zab (xs := [.agg s.cells]) (zai (es := (s.cells)) (cs := (s.pv)) 58 U26 sz60 zc60 (qaA rfl) (qaA rfl) rfl qm qm qm (qaA rfl)) qH rfl ⟨rfl, trivial⟩ ?_
  refine zab (zaq 59 U26 eo60 (zaU) qy qk (show i + 1 = i + 1 from rfl) hnx.symm) rfl rfl ⟨rfl, rfl, rfl, trivial⟩ ?_
  refine fA zhq rfl rfl ?_
  refine jdZ (zaS (Y := .row 59) (es := cmC c (.p (ndsV T)) (.row 59) nlA nlA (d.gen + 1) d.now d.last) sz26 rfl rfl (qaA rfl) rfl) ?_
  refine jcQ ?_
  refine ⟨m - 1, qk, _, zad (fun o => bif Nat.beq o 60 then 59 else o) _ _ ?_ ?_ rfl, i + 1, qk, rfl⟩
  ·exact ja5
  ·exact jaO
 have hge : i = c.ps.length := by simp at h; omega
 clear h
 subst hge
 rw [qa5]
 refine jdk ?_
 refine zaZ (zdO (cs := (c.ps.map (fcS d c)).flatMap ST.pv) 60 rfl) ?_
 refine G [3] ?_
 refine zab (zaf U32 rfl sz32 qo (show _ = cmC c (.p (ndsV T)) (.p (.sl c.ps.length 41 ((c.ps.map (fcS d c)).flatMap ST.pv))) (.p (.sl 0 5 [])) (.p (.sl 0 5 [])) (d.gen + 1) d.now d.last from rfl)) rfl rfl ⟨rfl, trivial⟩ ?_
 refine cK hcp ?_
 refine jdZ (zac (Y := .agg (cmC c (.p (ndsV T)) (.p (.sl c.ps.length 41 ((c.ps.map (fcS d c)).flatMap ST.pv))) (.p (.sl 0 5 [])) (.p (.sl 0 5 [])) (d.gen + 1) d.now d.last)) sz32 rfl rfl (qaB rfl)) ?_
 refine jdc ?_
 exact yE
end Go.Proofs.YtlfjpippeeikdaaGreatDoor
namespace Go.Proofs.YtlfjpippeeikdaaGreatDoor
open Go.RowKit Go.Sort
set_option maxHeartbeats 16000000
set_option maxRecDepth 100000
theorem fcS_none {d : DM} {c : CF} {p : PE} (h : ¬ peN p.key d.c.ps < d.c.ps.length) : fcS d c p = ⟨p.key, p.ep, KY0, KY0, KY0, HS0, []⟩ := by
 unfold fcS
 rw [qbO (by omega)]
theorem fcS_some {d : DM} {c : CF} {p was : PE} {s : ST} (hw : d.c.ps[peN p.key d.c.ps]? = some was) (hs : d.ps[peN p.key d.c.ps]? = some s) : fcS d c p = fcK d c p was s := by
 unfold fcS
 rw [hw, hs]
def fcX (d : DM) (c : CF) (T : List ND) (i : Nat) : List (Nat × AObj) := [(1, .box 32 d.cells), (2, .box 32 zdmC), (5, .box 24 c.cells), (7, .box 32 (cmC c (.p (ndsV T)) (.row 60) nlA nlA (d.gen + 1) d.now d.last)), (60, .row 60 41 i (((c.ps.take i).map (fcS d c)).flatMap ST.pv))]
theorem committed_s (d : DM) (ok : d.OK) : Fn Tryz.prog 6 [.agg d.cells] (fcV (fcE d)) [] := by
 have hC := refDm_s d ok
 have hG := fn_en sxE_e (refSgEnd_s d.sg ok.sg)
 have hoc := sxE_ok ok.sg
 unfold fcE
 by_cases h0 : dmE d ≠ 0
 ·exact ja4
 rw [if_neg h0]
 have h0 : dmE d = 0 := qaH.1 h0
 rw [h0] at hC
 have hD : fcD d = ⟨(sxE d.sg).1, zea (sxE d.sg).1, (sxE d.sg).1.ps.map (fcS d (sxE d.sg).1), dm0.sg, d.gen + 1, d.now, d.last⟩ := rfl
 rw [hD]
 clear hD
 obtain ⟨⟨c, e⟩, hce⟩ : ∃ x, sxE d.sg = x := ⟨_, rfl⟩
 rw [hce] at hG hoc ⊢
 dsimp only at hoc ⊢
 change Fn _ _ _ (.tup [.agg c.cells, qd e]) _ at hG
 clear hce
 by_cases h1 : e ≠ 0
 ·exact jaJ
 rw [if_neg h1]
 have h1 : e = 0 := qaH.1 h1
 subst h1
 by_cases h2 : d.gen = 1099511627776
 ·exact jaH
 rw [if_neg h2]
 have hT := rtreeD_s c hoc
 have hK := fc_keys h0
 have hP := fun k => zaL d.c ok.c k
 have hcl := hoc.len
 have hdl := ok.c.len
 have hsl := ok.psN
 have hR := fun (s : ST) (h : s ∈ d.ps) => rcopy_s [s] (fun s' hs' => by rw [qbC.1 hs']; exact (ok.ps s h).1) qz
 have hgen : 0 ≤ d.gen ∧ d.gen ≤ 1099511627776 := by
  have := (dm_good h0).2.2.2.1
  unfold zg4 at this
  omega
 refine jds ?_
 rw [qaR]
 clear h0 hoc
 generalize zea c = T at *
 generalize cfE c = ce at *
 refine fn_fz (news := [(0, .row 60 41 c.ps.length ((c.ps.map (fcS d c)).flatMap ST.pv))]) (res := .tup [.agg (cmC c (.p (ndsV T)) (.row 0) (.p (.sl 0 5 [])) (.p (.sl 0 5 [])) (d.gen + 1) d.now d.last), qd 0]) ?_ rfl rfl
 refine fnI fun w0 A => ?_
 refine G [9] ?_
 refine jcW ?_
 refine cK hC ?_
 refine G [5, 1, 6] ?_
 refine jc2 ?_
 refine cK hG ?_
 refine G [4] ?_
 refine jdz ?_
 refine G [6, 1, 8, 3, 5] ?_
 refine jc4 ?_
 refine G [2] ?_
 refine zaa (zd8 (show _ = d.gen + 1 from qa6 _ qk)) rfl rfl ?_
 refine G [6] ?_
 refine jdZ (zac (Y := .agg (cmC c nlA nlA nlA nlA (d.gen + 1) d.now d.last)) sz32 rfl rfl (qaB rfl)) ?_
 refine G [3] ?_
 refine jc4 ?_
 refine cK hT ?_
 refine G [4] ?_
 refine jdZ (zaS (Y := .p (ndsV T)) (es := cmC c (.p (ndsV T)) nlA nlA nlA (d.gen + 1) d.now d.last) sz25 rfl rfl (qaA rfl) rfl) ?_
 refine zag (zaE (zaH (zii 7 4 60 60 41 rfl rfl rfl) ?_))
 refine G [9] ?_
 refine zae (fun m st => ∃ i : Nat, m + i = c.ps.length ∧ st = St.of [(1, .ref 1 0), (2, .ref 2 0), (5, .ref 5 0), (7, .ref 7 0), (49, .p c.row), (50, qd c.ps.length), (51, qd i)] (fcX d c T i)) c.ps.length ?_ ?_
 ·exact jbr
 rintro m st ⟨i, hi, rfl⟩
 by_cases hlt : i < c.ps.length
 rotate_left
 ·have hge : i = c.ps.length := qk
  subst hge
  unfold fcX
  rw [qa5]
  refine G [2, 3, 5] ?_
  refine jdk ?_
  skip
  refine tx (zab (zaf U32 rfl sz32 qo (show _ = cmC c (.p (ndsV T)) (.row 60) (.p (.sl 0 5 [])) (.p (.sl 0 5 [])) (d.gen + 1) d.now d.last from rfl)) rfl rfl ⟨rfl, trivial⟩ ?_)
  refine jdZ (zac (Y := .agg (cmC c (.p (ndsV T)) (.row 60) (.p (.sl 0 5 [])) (.p (.sl 0 5 [])) (d.gen + 1) d.now d.last)) sz32 rfl rfl (qaB rfl)) ?_
  refine jdc ?_
  refine yT (fun _ => 60) ?_ ?_
  ·exact rfl
  ·exact ⟨⟨rfl, rfl⟩, trivial⟩
 obtain ⟨p, hp⟩ : ∃ p, c.ps[i]? = some p := ⟨c.ps[i], List.getElem?_eq_getElem hlt⟩
 have hch := zaj (f := PE.pv) (k := 5) (fun _ => rfl) hp
 have hle := zak (f := PE.pv) (k := 5) (fun _ => rfl) hlt
 have hPk := hP p.key
 have hnx := fm_snoc hp (fcS d c)
 unfold fcX
 by_cases hi2 : peN p.key d.c.ps < d.c.ps.length
 rotate_left
 ·rw [fcS_none hi2] at hnx
  generalize hL0 : ((c.ps.take i).map (fcS d c)).flatMap ST.pv = L0 at *
  generalize hL1 : ((c.ps.take (i + 1)).map (fcS d c)).flatMap ST.pv = L1 at *
  generalize peN p.key d.c.ps = j at *
  refine G [2, 4, 9] ?_
  refine jc1 ?_
  refine jdV ?_
  refine jcZ ?_
  refine G [9] ?_
  refine jcO ?_
  refine zag (zaE (jdp ?_))
  refine G [4] ?_
  refine jcL ?_
  refine G [2] ?_
  refine cK hPk ?_
  refine G [9, 3, 2] ?_
  refine jcM ?_
  skip
  refine G [3] ?_
  refine jdr ?_
  refine jda ?_
  refine jdf ?_
  refine fA zhq rfl rfl ?_
  refine jc7 ?_
  refine jcQ ?_
  refine ⟨m - 1, qk, _, zad (fun o => bif Nat.beq o 60 then 131 else o) _ _ ?_ ?_ rfl, i + 1, qk, rfl⟩
  ·exact ja5
  ·exact jaO
 obtain ⟨was, hw⟩ : ∃ was, d.c.ps[peN p.key d.c.ps]? = some was := ⟨_, List.getElem?_eq_getElem hi2⟩
 obtain ⟨s, hs⟩ : ∃ s, d.ps[peN p.key d.c.ps]? = some s := ⟨_, List.getElem?_eq_getElem (by rw [hK.1]; exact hi2)⟩
 have hkk := hK.2 _ _ _ hw hs
 rw [peN_hit hw] at hkk
 have hRs := hR s (qaE hs)
 rw [fcS_some hw hs] at hnx
 unfold fcK at hnx
 have hch2 := zaj (f := PE.pv) (k := 5) (fun _ => rfl) hw
 have hle2 := zak (f := PE.pv) (k := 5) (fun _ => rfl) hi2
 have hi3 : peN p.key d.c.ps < d.ps.length := by rw [hK.1]; exact hi2
 have hle3 := zak (f := ST.pv) (k := 41) (fun _ => rfl) hi3
 have hep : (d.ps.flatMap ST.pv)[peN p.key d.c.ps * 41 + 1]? = some (qg s.ep) := fm_get (f := ST.pv) (k := 41) (fun _ => rfl) hs qw
 have hso : ((d.ps.flatMap ST.pv).drop (peN p.key d.c.ps * 41 + 2)).take 33 = s.a.pv ++ s.b.pv ++ s.c.pv := fm_drop (f := ST.pv) (k := 41) (fun _ => rfl) hs (q := 2) (n := 33) qw
 have hhd : ((d.ps.flatMap ST.pv).drop (peN p.key d.c.ps * 41 + 35)).take 5 = s.h.pv := fm_drop (f := ST.pv) (k := 41) (fun _ => rfl) hs (q := 35) (n := 5) qw
 have hss : ((d.ps.flatMap ST.pv).drop (peN p.key d.c.ps * 41)).take (1 * 41) = [s].flatMap ST.pv := by
  exact jcA
 rw [show [s].flatMap ST.pv = ST.pv s by rw [qbb, qb9, qaV]] at hRs hss
 obtain ⟨key', ep', a, b, c', hh, q⟩ := s
 dsimp only at hkk hep hso hhd hnx
 subst hkk
 generalize hL0 : ((c.ps.take i).map (fcS d c)).flatMap ST.pv = L0 at *
 generalize hL1 : ((c.ps.take (i + 1)).map (fcS d c)).flatMap ST.pv = L1 at *
 generalize peN p.key d.c.ps = j at *
 by_cases he : was.ep = p.ep
 ·rw [if_pos he] at hnx
  by_cases hx : d.c.key = c.key ∧ was.sh = p.sh
  ·rw [if_pos hx] at hnx
   refine G [2, 4, 9] ?_
   refine jc1 ?_
   refine jdV ?_
   refine jcZ ?_
   refine G [9] ?_
   refine jcO ?_
   refine zag (zaE (jdp ?_))
   refine G [4] ?_
   refine jcL ?_
   refine G [2] ?_
   refine cK hPk ?_
   refine G [9, 4, 9] ?_
   refine jdT ?_
   refine jdZ (zaJ 12 zr48 rfl) ?_
   refine jcY ?_
   refine G [8] ?_
   refine jdY (zaO (c := true) (decide_eq_true he)) ?_
   refine G [2] ?_
   skip
   refine G [5] ?_
   refine jdY (zah zcE rfl) ?_
   refine jc8 ?_
   refine fA zcE rfl rfl ?_
   refine jdZ (zaS (Y := qc ep') (es := ST.cells ⟨p.key, ep', KY0, KY0, KY0, HS0, []⟩) sz9 rfl rfl (qaA rfl) rfl) ?_
   refine G [7] ?_
   refine jdY (zaO (c := true) (decide_eq_true hx.2)) ?_
   refine G [6] ?_
   refine jdY (zaO (c := true) (decide_eq_true hx.1.symm)) ?_
   refine G [9] ?_
   refine jdY (zah zer rfl) ?_
   refine zaa (zam U55 rfl sz55 qY (qah)) rfl rfl ?_
   refine fA zer rfl rfl ?_
   refine jdZ (zaS (Y := .agg (zcB a b c')) (es := ST.cells ⟨p.key, ep', a, b, c', HS0, []⟩) sz55 rfl rfl (qaA rfl) rfl) ?_
   refine G [7] ?_
   refine jdY (zah zhp rfl) ?_
   refine zaa (zam U57 rfl sz57 qY (qai)) rfl rfl ?_
   refine fA zhp rfl rfl ?_
   refine jdZ (zaS (Y := .agg hh.cells) (es := ST.cells ⟨p.key, ep', a, b, c', hh, []⟩) sz57 rfl rfl (qaA rfl) rfl) ?_
   refine G [6] ?_
   refine zaa (zd8 (show _ = (j : Int) + 1 from qa6 _ qk)) rfl rfl ?_
   refine zaa (zdn (L := (some (_, _))) (H := (some (_, _))) U26 sz60 ⟨qk, (show _ = j by omega)⟩ ⟨qk, (show _ = j + 1 by omega)⟩ qk qk (show _ = 1 by omega) hss) rfl rfl ?_
   refine cK hRs ?_
   refine jdx ?_
   refine fA fi60_4 rfl rfl ?_
   refine jdZ (zbP U58 rfl (show _ = some (.sl q.length 3 (q.flatMap PQ.pv)) from rfl)) ?_
   refine fA fi60_4 rfl rfl ?_
   refine jdZ (zaS (Y := .p (.sl q.length 3 (q.flatMap PQ.pv))) (es := ST.cells ⟨p.key, ep', a, b, c', hh, q⟩) sz58 rfl rfl (qaA rfl) rfl) ?_
   refine G [4] ?_
   refine zab (zaf U60 rfl sz60 qo (show _ = ST.cells ⟨p.key, ep', a, b, c', hh, q⟩ from rfl)) rfl rfl ⟨rfl, trivial⟩ ?_
   refine zab (xs := [.agg (ST.cells ⟨p.key, ep', a, b, c', hh, q⟩)]) (zai (es := (ST.cells ⟨p.key, ep', a, b, c', hh, q⟩)) (cs := (ST.pv ⟨p.key, ep', a, b, c', hh, q⟩)) 130 U26 sz60 zc60 (qaA rfl) (qaA rfl) rfl qm qm qm (qaA rfl)) qH rfl ⟨rfl, trivial⟩ ?_
   refine jdf ?_
   refine fA zhq rfl rfl ?_
   refine jc7 ?_
   refine jcQ ?_
   refine ⟨m - 1, qk, _, zad (fun o => bif Nat.beq o 60 then 131 else o) _ _ ?_ ?_ rfl, i + 1, qk, rfl⟩
   ·exact ja5
   ·exact jaO
  rw [if_neg hx] at hnx
  refine G [2, 4, 9] ?_
  refine jc1 ?_
  refine jdV ?_
  refine jcZ ?_
  refine G [9] ?_
  refine jcO ?_
  refine zag (zaE (jdp ?_))
  refine G [4] ?_
  refine jcL ?_
  refine G [2] ?_
  refine cK hPk ?_
  refine G [9, 4, 9] ?_
  refine jdT ?_
  refine jdZ (zaJ 12 zr48 rfl) ?_
  refine jcY ?_
  refine G [8] ?_
  refine jdY (zaO (c := true) (decide_eq_true he)) ?_
  refine G [2] ?_
  skip
  refine G [5] ?_
  refine jdY (zah zcE rfl) ?_
  refine jc8 ?_
  refine fA zcE rfl rfl ?_
  refine jdZ (zaS (Y := qc ep') (es := ST.cells ⟨p.key, ep', KY0, KY0, KY0, HS0, []⟩) sz9 rfl rfl (qaA rfl) rfl) ?_
  refine G [15, 2, 1, 9, 0] ?_
  refine cX ?_ ?_ <;> intro h
  ·exact absurd (by simp at h; exact ⟨h.2.symm, h.1⟩) hx
  refine zay (zaE ?_)
  skip
  refine G [3] ?_
  refine zab (zaf U60 rfl sz60 qo (show _ = ST.cells ⟨p.key, ep', KY0, KY0, KY0, HS0, []⟩ from rfl)) rfl rfl ⟨rfl, trivial⟩ ?_
  refine zab (xs := [.agg (ST.cells ⟨p.key, ep', KY0, KY0, KY0, HS0, []⟩)]) (zai (es := (ST.cells ⟨p.key, ep', KY0, KY0, KY0, HS0, []⟩)) (cs := (ST.pv ⟨p.key, ep', KY0, KY0, KY0, HS0, []⟩)) 130 U26 sz60 zc60 (qaA rfl) (qaA rfl) rfl qm qm qm (qaA rfl)) qH rfl ⟨rfl, trivial⟩ ?_
  refine jdf ?_
  refine fA zhq rfl rfl ?_
  refine jc7 ?_
  refine jcQ ?_
  refine ⟨m - 1, qk, _, zad (fun o => bif Nat.beq o 60 then 131 else o) _ _ ?_ ?_ rfl, i + 1, qk, rfl⟩
  ·exact ja5
  ·exact jaO
 rw [if_neg he] at hnx
 by_cases hx : d.c.key = c.key ∧ was.sh = p.sh
 ·rw [if_pos hx] at hnx
  refine G [2, 4, 9] ?_
  refine jc1 ?_
  refine jdV ?_
  refine jcZ ?_
  refine G [9] ?_
  refine jcO ?_
  refine zag (zaE (jdp ?_))
  refine G [4] ?_
  refine jcL ?_
  refine G [2] ?_
  refine cK hPk ?_
  refine G [9, 4, 9] ?_
  refine jdT ?_
  refine jdZ (zaJ 12 zr48 rfl) ?_
  refine jcY ?_
  refine G [8] ?_
  refine jdY (zaO (c := false) (decide_eq_false he)) ?_
  refine G [2] ?_
  refine jcM ?_
  skip
  refine G [5] ?_
  refine jdY (zaO (c := true) (decide_eq_true hx.2)) ?_
  refine G [6] ?_
  refine jdY (zaO (c := true) (decide_eq_true hx.1.symm)) ?_
  refine G [9] ?_
  refine jdY (zah zer rfl) ?_
  refine zaa (zam U55 rfl sz55 qY (qah)) rfl rfl ?_
  refine fA zer rfl rfl ?_
  refine jdZ (zaS (Y := .agg (zcB a b c')) (es := ST.cells ⟨p.key, p.ep, a, b, c', HS0, []⟩) sz55 rfl rfl (qaA rfl) rfl) ?_
  refine G [7] ?_
  refine jdY (zah zhp rfl) ?_
  refine zaa (zam U57 rfl sz57 qY (qai)) rfl rfl ?_
  refine fA zhp rfl rfl ?_
  refine jdZ (zaS (Y := .agg hh.cells) (es := ST.cells ⟨p.key, p.ep, a, b, c', hh, []⟩) sz57 rfl rfl (qaA rfl) rfl) ?_
  refine G [6] ?_
  refine zaa (zd8 (show _ = (j : Int) + 1 from qa6 _ qk)) rfl rfl ?_
  refine zaa (zdn (L := (some (_, _))) (H := (some (_, _))) U26 sz60 ⟨qk, (show _ = j by omega)⟩ ⟨qk, (show _ = j + 1 by omega)⟩ qk qk (show _ = 1 by omega) hss) rfl rfl ?_
  refine cK hRs ?_
  refine jdx ?_
  refine fA fi60_4 rfl rfl ?_
  refine jdZ (zbP U58 rfl (show _ = some (.sl q.length 3 (q.flatMap PQ.pv)) from rfl)) ?_
  refine fA fi60_4 rfl rfl ?_
  refine jdZ (zaS (Y := .p (.sl q.length 3 (q.flatMap PQ.pv))) (es := ST.cells ⟨p.key, p.ep, a, b, c', hh, q⟩) sz58 rfl rfl (qaA rfl) rfl) ?_
  refine G [4] ?_
  refine zab (zaf U60 rfl sz60 qo (show _ = ST.cells ⟨p.key, p.ep, a, b, c', hh, q⟩ from rfl)) rfl rfl ⟨rfl, trivial⟩ ?_
  refine zab (xs := [.agg (ST.cells ⟨p.key, p.ep, a, b, c', hh, q⟩)]) (zai (es := (ST.cells ⟨p.key, p.ep, a, b, c', hh, q⟩)) (cs := (ST.pv ⟨p.key, p.ep, a, b, c', hh, q⟩)) 130 U26 sz60 zc60 (qaA rfl) (qaA rfl) rfl qm qm qm (qaA rfl)) qH rfl ⟨rfl, trivial⟩ ?_
  refine jdf ?_
  refine fA zhq rfl rfl ?_
  refine jc7 ?_
  refine jcQ ?_
  refine ⟨m - 1, qk, _, zad (fun o => bif Nat.beq o 60 then 131 else o) _ _ ?_ ?_ rfl, i + 1, qk, rfl⟩
  ·exact ja5
  ·exact jaO
 rw [if_neg hx] at hnx
 refine G [2, 4, 9] ?_
 refine jc1 ?_
 refine jdV ?_
 refine jcZ ?_
 refine G [9] ?_
 refine jcO ?_
 refine zag (zaE (jdp ?_))
 refine G [4] ?_
 refine jcL ?_
 refine G [2] ?_
 refine cK hPk ?_
 refine G [9, 4, 9] ?_
 refine jdT ?_
 refine jdZ (zaJ 12 zr48 rfl) ?_
 refine jcY ?_
 refine G [8] ?_
 refine jdY (zaO (c := false) (decide_eq_false he)) ?_
 refine G [2] ?_
 refine jcM ?_
 skip
 refine G [13, 2, 1, 9, 0] ?_
 refine cX ?_ ?_ <;> intro h
 ·exact absurd (by simp at h; exact ⟨h.2.symm, h.1⟩) hx
 refine zay (zaE ?_)
 skip
 refine G [3] ?_
 refine jdr ?_
 refine jda ?_
 refine jdf ?_
 refine fA zhq rfl rfl ?_
 refine jc7 ?_
 refine jcQ ?_
 refine ⟨m - 1, qk, _, zad (fun o => bif Nat.beq o 60 then 131 else o) _ _ ?_ ?_ rfl, i + 1, qk, rfl⟩
 ·exact ja5
 ·exact jaO
end Go.Proofs.YtlfjpippeeikdaaGreatDoor
namespace Go.Proofs.YtlfjpippeeikdaaGreatDoor
open Tryz
open Go.RowKit Go.Sort
set_option maxRecDepth 100000
theorem fcE_q {d : DM} (ok : d.OK) : (fcE d).1.Q := by
 unfold fcE
 split
 ·exact dm0_ok.q
 ·split
  ·exact dm0_ok.q
  ·split
   ·exact dm0_ok.q
   ·have hc := sxE_ok ok.sg
    refine ⟨hc, treeD_few _ hc, fun s hs => ?_, by simpa [fcD] using hc.len, qbk _, cf0_ok⟩
    obtain ⟨p, hp, rfl⟩ := qaJ.1 hs
    exact (fcS_ok ok (hc.ps p hp).1).2
theorem dm_cells (d : DM) : ∃ k p P T S lv R sk sp Q a e g w l, d.cells = dmC k p P T S lv R sk sp Q a e g w l := ⟨_, _, _, _, _, _, _, _, _, _, _, _, _, _, _, rfl⟩
theorem law_DaemonForces (x0 : List PV) (ty0 : Ty prog 10 32 x0) (hb0 : PV.bdL 1048576 x0) :
 Fn prog 3 [argAV true x0] (qf true) [] := by
 obtain ⟨d, od, rfl⟩ := DM.of_ty ty0 hb0
 change Fn prog _ [.agg d.cells] _ _
 have p1 := commit_s d od
 have q1 := committed_s d od
 have s1 := sameDaemon_q _ _ (fcE_q od) (fcE_q od)
 rw [dmB_self] at s1
 generalize fcE d = x at *
 obtain ⟨x, e⟩ := x
 dsimp only [fcV] at p1 q1 s1
 obtain ⟨k0, p0, P0, T0, S0, v0, R0, sk0, sp0, Q0, a0, r0, g0, w0, l0, hx0⟩ := dm_cells d
 obtain ⟨k1, p1', P1, T1, S1, v1, R1, sk1, sp1, Q1, a1, r1, g1, w1, l1, hx1⟩ := dm_cells x
 rw [hx0] at p1 q1 ⊢
 rw [hx1] at p1 q1 s1
 clear hx0 hx1 od hb0 ty0
 refine fnI fun w0 A => ?_
 refine G [8] ?_
 refine cK p1 ?_
 refine G [10] ?_
 refine cK q1 ?_
 refine G [11] ?_
 refine cK s1 ?_
 refine G [3, 1, 4, 9, 0] ?_
 exact yE
end Go.Proofs.YtlfjpippeeikdaaGreatDoor
