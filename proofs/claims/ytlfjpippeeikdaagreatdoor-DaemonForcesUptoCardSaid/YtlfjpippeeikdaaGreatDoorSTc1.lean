/- table.Right, the reference's StateFault, over data. -/
import Derived.Test.YtlfjpippeeikdaaGreatDoorSFz
import Derived.Test.YtlfjpippeeikdaaGreatDoorSHs
set_option linter.all false
namespace Go.Proofs.YtlfjpippeeikdaaGreatDoor
open Tryz
open Go.RowKit Go.Sort
set_option maxHeartbeats 16000000
set_option maxRecDepth 100000
structure PQ where
 a : Int
 b : Int
 xs : List Int
def PQ.pv (p : PQ) : List PV := [qi p.a, qi p.b, .sl p.xs.length 1 (bs p.xs)]
theorem pchk_s (a b : Int) (n : Nat) (cs : List PV) (hn : n ≤ 140737488355328) : Fn prog 105 [.agg [qe a, qe b, .p (.sl n 1 cs)]] (qd (if 200 < n then 1 else 0)) [] := by
 refine fnI fun w0 A => ?_
 refine G [13, 9, 0] ?_
 refine cX ?_ ?_ <;> intro h
 ·have h1 : 200 < n := by simp at h; omega
  rw [if_pos h1]
  refine jcQ ?_
  exact yE
 ·have h1 : ¬ 200 < n := by simp at h; omega
  rw [if_neg h1]
  refine jcV ?_
  exact yE
def zcB (a b c : KY) : List AV := a.cells ++ b.cells ++ c.cells
def zgX (a b c : KY) : List PV := a.pv ++ b.pv ++ c.pv
def zh9 (a b c : KY) (i : Nat) : KY := if i = 0 then a else if i = 1 then b else c
theorem three_at (a b c : KY) (i : Nat) (h : i < 3) : ((zcB a b c).drop (i * 11)).take 11 = (zh9 a b c i).cells := by
 exact jcE
theorem three_atV (a b c : KY) (i : Nat) (h : i < 3) : ((zgX a b c).drop (i * 11)).take 11 = (zh9 a b c i).pv := by
 exact jcE
theorem three_ok {a b c : KY} (ha : a.OK) (hb : b.OK) (hc : c.OK) (i : Nat) : (zh9 a b c i).OK := by
 unfold zh9
 split
 ·exact ha
 ·split
  ·exact hb
  ·exact hc
structure ST where
 key : ByteArray
 ep : ByteArray
 a : KY
 b : KY
 c : KY
 h : HS
 q : List PQ
def HS0 : HS := ⟨false, 0, ⟨#[]⟩, 0, 0⟩
def stC (key ep : ByteArray) (a b c : KY) (h : HS) (n : Nat) (q : List PV) : List AV := [qc key, qc ep] ++ zcB a b c ++ h.cells ++ [.p (.sl n 3 q)]
def ST.cells (s : ST) : List AV := stC s.key s.ep s.a s.b s.c s.h s.q.length (s.q.flatMap PQ.pv)
def ST.pv (s : ST) : List PV := [qg s.key, qg s.ep] ++ zgX s.a s.b s.c ++ s.h.pv ++ [.sl s.q.length 3 (s.q.flatMap PQ.pv)]
structure ST.OK (s : ST) : Prop where
 ep : s.ep.size < 4294967281
 a : s.a.OK
 b : s.b.OK
 c : s.c.OK
 q : s.q.length ≤ 1048576
 qx : ∀ p ∈ s.q, p.xs.length ≤ 1048576
def hsE (h : HS) : Int :=
 if h.lv = false then (if h.mine = 0 ∧ h.nc = ⟨#[]⟩ ∧ h.b = 0 ∧ h.s = 0 then 0 else 14) else if h.nc.size ≠ 16 then 1 else if hexE h.nc ≠ 0 then hexE h.nc
 else if h.mine < 1 ∨ 4294967295 < h.mine ∨ h.b < 0 ∨ h.s < h.b ∨ 1099511627776 < h.s then 4 else 0
noncomputable def ksE (a b c : KY) : Int := fnz (fun i => kE (zh9 a b c i)) 3
def pqG (l : List PQ) (i : Nat) : PQ := l.getD i ⟨0, 0, []⟩
def pqE (l : List PQ) : Int := fnz (fun i => if 200 < (pqG l i).xs.length then 1 else 0) l.length
noncomputable def stE (s : ST) : Int :=
 if keyE s.key ≠ 0 then keyE s.key else if ksE s.a s.b s.c ≠ 0 then ksE s.a s.b s.c else if hsE s.h ≠ 0 then hsE s.h
 else if s.ep ≠ ⟨#[]⟩ ∧ enE s.ep ≠ 0 then enE s.ep else if 3 < s.q.length then 1 else pqE s.q
theorem eqHand (m : Int) (n : ByteArray) (b s : Int) : eqL [.bool false, .int .i64 m, .string n, .int .i64 b, .int .i64 s] [.bool false, .int .i64 0, .string ⟨#[]⟩, .int .i64 0, .int .i64 0] = decide (m = 0 ∧ n = ⟨#[]⟩ ∧ b = 0 ∧ s = 0) := by
 rw [qbm, zaP]
 simp
theorem tright_s (s : ST) (ok : s.OK) : Fn prog 69 [.agg s.cells] (qd (stE s)) [] := by
 obtain ⟨key, ep, a, b, c, h0, q⟩ := s
 obtain ⟨hep, oa, ob, oc, hq, hqx⟩ := ok
 dsimp only at hep oa ob oc hq hqx
 obtain ⟨E, hE⟩ : ∃ E, stE ⟨key, ep, a, b, c, h0, q⟩ = E := ⟨_, rfl⟩
 rw [hE]
 unfold stE at hE
 dsimp only at hE
 have hK := zbW key
 have hEn := end_s ep hep
 obtain ⟨ea, eb, hen⟩ := enR_e ep
 rw [hen] at hEn
 clear hen
 have h3a := three_at a b c
 have h3o := three_ok oa ob oc
 have hks : ksE a b c = fnz (fun i => kE (zh9 a b c i)) 3 := rfl
 generalize hT : zh9 a b c = T at *
 show Fn prog _ [.agg (stC key ep a b c h0 q.length (q.flatMap PQ.pv))] _ _
 generalize keyE key = k1 at *
 generalize enE ep = e1 at *
 refine fnI fun w0 A => ?_
 refine G [10] ?_
 refine cV hK ?_
 refine jcS ?_
 refine cX ?_ ?_ <;> intro h
 ·exact jco
 have h1 : k1 = 0 := by simpa using h
 clear h
 rw [if_neg (by simp [h1])] at hE
 refine G [6] ?_
 refine jdG ?_
 refine G [2] ?_
 refine jdH ?_
 refine G [2] ?_
 refine jdI ?_
 refine zaa (xs := [.agg a.cells, .agg b.cells, .agg c.cells]) (zfI (es := (a.cells ++ b.cells ++ c.cells)) underlying154 zr154 rfl sz53 qm) qH rfl ?_
 refine G [3] ?_
 refine zae (fun m st => ∃ i : Nat, m + i = 3 ∧ (∀ j, j < i → kE (T j) = 0) ∧ st = St.of [(1, .ref 1 0), (31, .agg (zcB a b c)), (32, qd i)] [(1, .box 60 (stC key ep a b c h0 q.length (q.flatMap PQ.pv)))]) 3 ?_ ?_
 ·exact jaw
 rintro m st ⟨i, hi, hf, rfl⟩
 refine G [5] ?_
 refine cX ?_ ?_ <;> intro h
 ·have hlt : i < 3 := by simp at h; omega
  clear h
  have hix := h3a i hlt
  have hC := kcheck_s (T i) (h3o i)
  have hhit := @zb8 (fun i => kE (T i)) i 3 hf hlt
  generalize hTx : T i = x at *
  refine G [5] ?_
  refine zaa (a_indexN underlying154 sz53 U53 rfl qk qk (show _ = x.cells by rw [qaS]; exact hix)) rfl rfl ?_
  refine jdZ (zaJ 5 zr53 rfl) ?_
  refine jdZ (zac (Y := .agg x.cells) sz53 rfl rfl (qaB rfl)) ?_
  refine G [3] ?_
  refine jdJ ?_
  refine cK hC ?_
  refine jcS ?_
  refine cX ?_ ?_ <;> intro h
  ·exact jct
  have he : kE x = 0 := by simpa using h
  refine jcQ ?_
  refine ⟨m - 1, qk, _, zad id _ _ ?_ ?_ rfl, i + 1, qk, fun j hj => ?_, rfl⟩
  ·exact ja5
  ·exact ⟨⟨rfl, rfl⟩, trivial⟩
  ·by_cases ej : j = i
   ·rw [ej, hTx]; exact he
   ·exact hf j qk
 have hge : i = 3 := by simp at h; omega
 clear h
 subst hge
 rw [hks, zcD hf, if_neg (by simp)] at hE
 clear hf h3a h3o hks hT
 obtain ⟨lv, mine, nc, hb, hs⟩ := h0
 unfold hsE at hE
 dsimp only at hE
 have hN := zf4 nc
 refine G [4] ?_
 refine jdl ?_
 refine jdZ (zaJ 7 zr57 rfl) ?_
 refine jdw ?_
 refine zag ?_
 cases lv with
 | false =>
  rw [if_pos rfl] at hE
  by_cases hz : mine = 0 ∧ nc = ⟨#[]⟩ ∧ hb = 0 ∧ hs = 0
  ·rw [if_pos hz, if_neg (by simp)] at hE
   refine G [7] ?_
   refine zab (zaf U57 rfl sz57 qo (show _ = [qf false, qd mine, qc nc, qd hb, qd hs] from rfl)) rfl rfl ⟨rfl, trivial⟩ ?_
   refine jdY (zcs pl57 zr57 rfl rfl) ?_
   refine zaa (zao U57 rfl rfl qm qm qm (c := false) (by rw [eqHand]; simp [hz])) rfl rfl ?_
   refine G [11] ?_
   by_cases h4 : ep ≠ ⟨#[]⟩ ∧ e1 ≠ 0
   ·rw [if_pos h4] at hE
    subst hE
    refine G [8, 9, 0] ?_
    refine cX ?_ ?_ <;> intro h
    ·refine G [4] ?_
     refine cV hEn ?_
     refine G [13, 9, 0] ?_
     refine cX ?_ ?_ <;> intro h
     ·refine G [6, 9, 0] ?_
      exact yE
     ·exact absurd qG h4.2
    ·exact absurd qG h4.1
   rw [if_neg h4] at hE
   refine G [8, 9, 0] ?_
   refine zde (St.of [(1, .ref 1 0)] [(1, .box 60 (stC key ep a b c ⟨false, mine, nc, hb, hs⟩ q.length (q.flatMap PQ.pv)))]) ?_ ?_
   ·skip
    refine cX ?_ ?_ <;> intro h
    ·refine G [4] ?_
     refine cV hEn ?_
     refine G [13, 9, 0] ?_
     refine cX ?_ ?_ <;> intro h
     ·exact absurd ⟨by simp_all, by simpa using h⟩ h4
     ·refine zay (zaE ?_)
      exact zad id _ _ qp qp rfl
    ·refine zay (zaE ?_)
     exact zad id _ _ qp qp rfl
   clear h4
   refine G [8, 9, 0] ?_
   refine cX ?_ ?_ <;> intro h
   ·have h5 : 3 < q.length := by simp at h; omega
    rw [if_pos h5] at hE
    subst hE
    refine G [5, 9, 0] ?_
    exact yE
   have h5 : ¬ 3 < q.length := by simp at h; omega
   clear h
   rw [if_neg h5] at hE
   unfold pqE at hE
   obtain ⟨f, hF⟩ : ∃ f, (fun i => if 200 < (pqG q i).xs.length then 1 else 0 : Nat → Int) = f := ⟨_, rfl⟩
   rw [hF] at hE
   refine G [10] ?_
   refine zae (fun m st => ∃ i : Nat, m + i = q.length ∧ (∀ j, j < i → f j = 0) ∧ st = St.of [(109, .p (.sl q.length 3 (q.flatMap PQ.pv))), (110, qd q.length), (111, qd i)] []) q.length ?_ ?_
   ·refine ⟨_, zad id _ _ ?_ ?_ rfl, 0, qk, qk, rfl⟩
    ·(repeat (first | exact trivial | (refine ⟨⟨qu, rfl⟩, ?_⟩)))
    ·trivial
   rintro m st ⟨i, hi, hf, rfl⟩
   refine G [5] ?_
   refine cX ?_ ?_ <;> intro h
   ·have hlt : i < q.length := by simp at h; omega
    clear h
    obtain ⟨p, hp⟩ : ∃ p, q[i]? = some p := ⟨q[i], List.getElem?_eq_getElem hlt⟩
    have hch := zaj (f := PQ.pv) (k := 3) (fun _ => rfl) hp
    have hle := zak (f := PQ.pv) (k := 3) (fun _ => rfl) hlt
    have hpx := hqx p (qaE hp)
    have hhit := @zb8 f i q.length hf hlt
    have hfi : f i = if 200 < p.xs.length then 1 else 0 := by rw [← hF]; show (if 200 < (pqG q i).xs.length then (1 : Int) else 0) = _; rw [show pqG q i = p by unfold pqG; rw [List.getD_eq_getElem?_getD, hp]; rfl]
    obtain ⟨pa, pb, xs⟩ := p
    dsimp only at hpx hfi
    change _ = [PV.v (.int .u32 pa), qi pb, .sl xs.length 1 (bs xs)] at hch
    have hC := pchk_s pa pb xs.length (bs xs) qk
    generalize hL : q.flatMap PQ.pv = L at *
    generalize bs xs = X at *
    generalize xs.length = N at *
    refine G [6] ?_
    refine zaa (zam U93 rfl sz93 qL (hch)) rfl rfl ?_
    refine jdZ (zaJ 14 zr93 rfl) ?_
    refine jdZ (zac (Y := .agg [qe pa, qe pb, .p (.sl N 1 X)]) sz93 rfl rfl (qaB rfl)) ?_
    refine zag ?_
    by_cases h6 : 200 < N
    ·rw [if_pos h6] at hC hfi
     rw [hhit (by rw [hfi]; decide), hfi] at hE
     subst hE
     refine G [3] ?_
     refine cK hC ?_
     refine G [14, 9, 0] ?_
     exact yE
    ·rw [if_neg h6] at hC
     refine G [3] ?_
     refine cK hC ?_
     refine G [5, 1, 7, 9, 0] ?_
     refine ⟨m - 1, qk, _, zad id _ _ ?_ ?_ rfl, i + 1, qk, fun j hj => ?_, rfl⟩
     ·(repeat (first | exact trivial | (refine ⟨⟨qu, rfl⟩, ?_⟩)))
     ·trivial
     ·by_cases ej : j = i
      ·rw [ej, hfi, if_neg h6]
      ·exact hf j qk
   have hge : i = q.length := by simp at h; omega
   clear h
   subst hge
   rw [zcD hf] at hE
   subst hE
   refine G [6, 9, 0] ?_
   exact yE
  ·rw [if_neg hz, if_pos (by decide)] at hE
   subst hE
   refine G [7] ?_
   refine zab (zaf U57 rfl sz57 qo (show _ = [qf false, qd mine, qc nc, qd hb, qd hs] from rfl)) rfl rfl ⟨rfl, trivial⟩ ?_
   refine jdY (zcs pl57 zr57 rfl rfl) ?_
   refine zaa (zao U57 rfl rfl qm qm qm (c := true) (by rw [eqHand]; simp only [qbU, decide_eq_false_iff_not]; exact hz)) rfl rfl ?_
   refine G [8, 9, 0] ?_
   exact yE
 | true =>
  rw [if_neg (show ¬ true = false by decide)] at hE
  refine G [29, 9, 0] ?_
  refine cX ?_ ?_ <;> intro h
  ·have h2 : nc.size ≠ 16 := by simp at h; omega
   rw [if_pos h2, if_pos (by decide)] at hE
   subst hE
   refine G [5, 9, 0] ?_
   exact yE
  have h2 : nc.size = 16 := by simp at h; omega
  clear h
  rw [if_neg (show ¬ nc.size ≠ 16 by simp [h2])] at hE
  by_cases h3 : hexE nc ≠ 0
  ·rw [if_pos h3, if_pos h3] at hE
   obtain ⟨g1, g2⟩ := zbK rfl h3
   rw [g1, g2] at hN
   subst hE
   generalize hexE nc = he at *
   refine G [6] ?_
   refine cV hN ?_
   refine G [11, 9, 0] ?_
   refine cX ?_ ?_ <;> intro h
   ·refine G [6, 9, 0] ?_
    exact yE
   ·exact absurd qG h3
  rw [if_neg h3] at hE
  replace h3 : hexE nc = 0 := qaH.1 h3
  obtain ⟨g1, g2⟩ := zcr h3
  rw [g1, g2] at hN
  clear g1 g2
  refine G [6] ?_
  refine cV hN ?_
  refine G [9, 1, 12, 2, 4, 2, 6, 2, 4, 2, 1, 9, 0] ?_
  refine cX ?_ ?_ <;> intro h
  ·have h5 : mine < 1 ∨ 4294967295 < mine ∨ hb < 0 ∨ hs < hb ∨ 1099511627776 < hs := by simp at h; omega
   rw [if_pos h5, if_pos (by decide)] at hE
   subst hE
   refine G [5, 9, 0] ?_
   exact yE
  have h5 : ¬ (mine < 1 ∨ 4294967295 < mine ∨ hb < 0 ∨ hs < hb ∨ 1099511627776 < hs) := by simp at h; omega
  clear h
  rw [if_neg h5, if_neg (by simp)] at hE
  by_cases h4 : ep ≠ ⟨#[]⟩ ∧ e1 ≠ 0
  ·rw [if_pos h4] at hE
   subst hE
   refine G [8, 9, 0] ?_
   refine cX ?_ ?_ <;> intro h
   ·refine G [4] ?_
    refine cV hEn ?_
    refine G [13, 9, 0] ?_
    refine cX ?_ ?_ <;> intro h
    ·refine G [6, 9, 0] ?_
     exact yE
    ·exact absurd qG h4.2
   ·exact absurd qG h4.1
  rw [if_neg h4] at hE
  refine G [8, 9, 0] ?_
  refine zde (St.of [(1, .ref 1 0)] [(1, .box 60 (stC key ep a b c ⟨true, mine, nc, hb, hs⟩ q.length (q.flatMap PQ.pv)))]) ?_ ?_
  ·skip
   refine cX ?_ ?_ <;> intro h
   ·refine G [4] ?_
    refine cV hEn ?_
    refine G [13, 9, 0] ?_
    refine cX ?_ ?_ <;> intro h
    ·exact absurd ⟨by simp_all, by simpa using h⟩ h4
    ·refine zay (zaE ?_)
     exact zad id _ _ qp qp rfl
   ·refine zay (zaE ?_)
    exact zad id _ _ qp qp rfl
  clear h4
  refine G [8, 9, 0] ?_
  refine cX ?_ ?_ <;> intro h
  ·have h5 : 3 < q.length := by simp at h; omega
   rw [if_pos h5] at hE
   subst hE
   refine G [5, 9, 0] ?_
   exact yE
  have h5 : ¬ 3 < q.length := by simp at h; omega
  clear h
  rw [if_neg h5] at hE
  unfold pqE at hE
  obtain ⟨f, hF⟩ : ∃ f, (fun i => if 200 < (pqG q i).xs.length then 1 else 0 : Nat → Int) = f := ⟨_, rfl⟩
  rw [hF] at hE
  refine G [10] ?_
  refine zae (fun m st => ∃ i : Nat, m + i = q.length ∧ (∀ j, j < i → f j = 0) ∧ st = St.of [(109, .p (.sl q.length 3 (q.flatMap PQ.pv))), (110, qd q.length), (111, qd i)] []) q.length ?_ ?_
  ·refine ⟨_, zad id _ _ ?_ ?_ rfl, 0, qk, qk, rfl⟩
   ·(repeat (first | exact trivial | (refine ⟨⟨qu, rfl⟩, ?_⟩)))
   ·trivial
  rintro m st ⟨i, hi, hf, rfl⟩
  refine G [5] ?_
  refine cX ?_ ?_ <;> intro h
  ·have hlt : i < q.length := by simp at h; omega
   clear h
   obtain ⟨p, hp⟩ : ∃ p, q[i]? = some p := ⟨q[i], List.getElem?_eq_getElem hlt⟩
   have hch := zaj (f := PQ.pv) (k := 3) (fun _ => rfl) hp
   have hle := zak (f := PQ.pv) (k := 3) (fun _ => rfl) hlt
   have hpx := hqx p (qaE hp)
   have hhit := @zb8 f i q.length hf hlt
   have hfi : f i = if 200 < p.xs.length then 1 else 0 := by rw [← hF]; show (if 200 < (pqG q i).xs.length then (1 : Int) else 0) = _; rw [show pqG q i = p by unfold pqG; rw [List.getD_eq_getElem?_getD, hp]; rfl]
   obtain ⟨pa, pb, xs⟩ := p
   dsimp only at hpx hfi
   change _ = [PV.v (.int .u32 pa), qi pb, .sl xs.length 1 (bs xs)] at hch
   have hC := pchk_s pa pb xs.length (bs xs) qk
   generalize hL : q.flatMap PQ.pv = L at *
   generalize bs xs = X at *
   generalize xs.length = N at *
   refine G [6] ?_
   refine zaa (zam U93 rfl sz93 qL (hch)) rfl rfl ?_
   refine jdZ (zaJ 14 zr93 rfl) ?_
   refine jdZ (zac (Y := .agg [qe pa, qe pb, .p (.sl N 1 X)]) sz93 rfl rfl (qaB rfl)) ?_
   refine zag ?_
   by_cases h6 : 200 < N
   ·rw [if_pos h6] at hC hfi
    rw [hhit (by rw [hfi]; decide), hfi] at hE
    subst hE
    refine G [3] ?_
    refine cK hC ?_
    refine G [14, 9, 0] ?_
    exact yE
   ·rw [if_neg h6] at hC
    refine G [3] ?_
    refine cK hC ?_
    refine G [13, 9, 0] ?_
    refine ⟨m - 1, qk, _, zad id _ _ ?_ ?_ rfl, i + 1, qk, fun j hj => ?_, rfl⟩
    ·(repeat (first | exact trivial | (refine ⟨⟨qu, rfl⟩, ?_⟩)))
    ·trivial
    ·by_cases ej : j = i
     ·rw [ej, hfi, if_neg h6]
     ·exact hf j qk
  have hge : i = q.length := by simp at h; omega
  clear h
  subst hge
  rw [zcD hf] at hE
  subst hE
  refine G [6, 9, 0] ?_
  exact yE
theorem refState_s (s : ST) (ok : s.OK) : Fn prog 84 [.agg s.cells] (qd (stE s)) [] := by
 obtain ⟨key, ep, a, b, c, h0, q⟩ := s
 obtain ⟨hep, oa, ob, oc, hq, hqx⟩ := ok
 dsimp only at hep oa ob oc hq hqx
 obtain ⟨E, hE⟩ : ∃ E, stE ⟨key, ep, a, b, c, h0, q⟩ = E := ⟨_, rfl⟩
 rw [hE]
 unfold stE at hE
 dsimp only at hE
 have hK := zbJ key
 have hEn := zih ep hep
 obtain ⟨ea, eb, hen⟩ := enR_e ep
 rw [hen] at hEn
 clear hen
 have h3a := three_atV a b c
 have h3o := three_ok oa ob oc
 have hks : ksE a b c = fnz (fun i => kE (zh9 a b c i)) 3 := rfl
 generalize hT : zh9 a b c = T at *
 show Fn prog _ [.agg (stC key ep a b c h0 q.length (q.flatMap PQ.pv))] _ _
 generalize keyE key = k1 at *
 generalize enE ep = e1 at *
 refine fnI fun w0 A => ?_
 refine G [10] ?_
 refine cV hK ?_
 refine jcS ?_
 refine cX ?_ ?_ <;> intro h
 ·exact jco
 have h1 : k1 = 0 := by simpa using h
 clear h
 rw [if_neg (by simp [h1])] at hE
 refine G [6] ?_
 refine jdG ?_
 refine G [2] ?_
 refine jdH ?_
 refine G [2] ?_
 refine jdI ?_
 refine zab (xs := [.agg a.cells, .agg b.cells, .agg c.cells]) (zai (es := (a.cells ++ b.cells ++ c.cells)) (cs := (a.pv ++ b.pv ++ c.pv)) 30 underlying167 sz53 zc53 (qaA rfl) (qaA rfl) rfl qm qm qm (qaA rfl)) qH rfl ⟨rfl, trivial⟩ ?_
 refine G [4] ?_
 refine zae (fun m st => ∃ i : Nat, m + i = 3 ∧ (∀ j, j < i → kE (T j) = 0) ∧ st = St.of [(1, .ref 1 0), (30, .row 30), (31, qd 3), (32, qd i)] [(1, .box 60 (stC key ep a b c h0 q.length (q.flatMap PQ.pv))), (30, .row 53 11 3 (zgX a b c))]) 3 ?_ ?_
 ·exact jaR
 rintro m st ⟨i, hi, hf, rfl⟩
 refine G [5] ?_
 refine cX ?_ ?_ <;> intro h
 ·have hlt : i < 3 := by simp at h; omega
  clear h
  have hix := h3a i hlt
  have hsl : (zgX a b c).length = 33 := rfl
  have hC := refKFault_s (T i) (h3o i)
  have hhit := @zb8 (fun i => kE (T i)) i 3 hf hlt
  generalize hTx : T i = x at *
  refine G [5] ?_
  refine zab (zaw underlying167 sz53 qk qk (show _ = i * 11 by omega)) rfl rfl ⟨rfl, trivial⟩ ?_
  refine zab (zd2 U53 rfl sz53 qk (hix)) rfl rfl ⟨rfl, trivial⟩ ?_
  refine jdZ (zaJ 5 zr53 rfl) ?_
  refine jdZ (zac (Y := .agg x.cells) sz53 rfl rfl (qaB rfl)) ?_
  refine G [3] ?_
  refine jdJ ?_
  refine cK hC ?_
  refine jcS ?_
  refine cX ?_ ?_ <;> intro h
  ·exact jct
  have he : kE x = 0 := by simpa using h
  refine jcQ ?_
  refine ⟨m - 1, qk, _, zad id _ _ ?_ ?_ rfl, i + 1, qk, fun j hj => ?_, rfl⟩
  ·exact ja5
  ·exact ⟨⟨rfl, rfl⟩, ⟨rfl, rfl⟩, trivial⟩
  ·by_cases ej : j = i
   ·rw [ej, hTx]; exact he
   ·exact hf j qk
 have hge : i = 3 := by simp at h; omega
 clear h
 subst hge
 rw [hks, zcD hf, if_neg (by simp)] at hE
 clear hf h3a h3o hks hT
 obtain ⟨lv, mine, nc, hb, hs⟩ := h0
 unfold hsE at hE
 dsimp only at hE
 have hN := zfU nc
 refine G [4] ?_
 refine jdl ?_
 refine jdZ (zaJ 7 zr57 rfl) ?_
 refine jdw ?_
 refine zag ?_
 cases lv with
 | false =>
  rw [if_pos rfl] at hE
  refine G [16, 2, 4, 2, 4, 2, 1, 9, 0] ?_
  refine cX ?_ ?_ <;> intro h
  ·have hz : ¬ (mine = 0 ∧ nc = ⟨#[]⟩ ∧ hb = 0 ∧ hs = 0) := by
    intro ⟨z1, z2, z3, z4⟩
    simp [z1, z2, z3, z4] at h
   rw [if_neg hz, if_pos (by decide)] at hE
   subst hE
   refine G [5, 9, 0] ?_
   exact yE
  have hz : mine = 0 ∧ nc = ⟨#[]⟩ ∧ hb = 0 ∧ hs = 0 := by
   simp at h
   grind
  clear h
  rw [if_pos hz, if_neg (by simp)] at hE
  refine G [6] ?_
  refine cV hEn ?_
  refine G [16, 2, 1, 9, 0] ?_
  refine cX ?_ ?_ <;> intro h
  ·have h4 : ep ≠ ⟨#[]⟩ ∧ e1 ≠ 0 := by simpa using h
   rw [if_pos h4] at hE
   subst hE
   refine G [6, 9, 0] ?_
   exact yE
  have h4 : ¬ (ep ≠ ⟨#[]⟩ ∧ e1 ≠ 0) := by
   intro ⟨h5, h6⟩
   simp [h5, h6] at h
  clear h
  rw [if_neg h4] at hE
  refine G [9, 9, 0] ?_
  refine cX ?_ ?_ <;> intro h
  ·have h5 : 3 < q.length := by simp at h; omega
   rw [if_pos h5] at hE
   subst hE
   refine G [5, 9, 0] ?_
   exact yE
  have h5 : ¬ 3 < q.length := by simp at h; omega
  clear h
  rw [if_neg h5] at hE
  unfold pqE at hE
  obtain ⟨f, hF⟩ : ∃ f, (fun i => if 200 < (pqG q i).xs.length then 1 else 0 : Nat → Int) = f := ⟨_, rfl⟩
  rw [hF] at hE
  refine G [10] ?_
  refine zae (fun m st => ∃ i : Nat, m + i = q.length ∧ (∀ j, j < i → f j = 0) ∧ st = St.of [(122, .p (.sl q.length 3 (q.flatMap PQ.pv))), (123, qd q.length), (124, qd i)] []) q.length ?_ ?_
  ·refine ⟨_, zad id _ _ ?_ ?_ rfl, 0, qk, qk, rfl⟩
   ·(repeat (first | exact trivial | (refine ⟨⟨qu, rfl⟩, ?_⟩)))
   ·trivial
  rintro m st ⟨i, hi, hf, rfl⟩
  refine G [5] ?_
  refine cX ?_ ?_ <;> intro h
  ·have hlt : i < q.length := by simp at h; omega
   clear h
   obtain ⟨p, hp⟩ : ∃ p, q[i]? = some p := ⟨q[i], List.getElem?_eq_getElem hlt⟩
   have hch := zaj (f := PQ.pv) (k := 3) (fun _ => rfl) hp
   have hle := zak (f := PQ.pv) (k := 3) (fun _ => rfl) hlt
   have hpx := hqx p (qaE hp)
   have hhit := @zb8 f i q.length hf hlt
   have hfi : f i = if 200 < p.xs.length then 1 else 0 := by rw [← hF]; show (if 200 < (pqG q i).xs.length then (1 : Int) else 0) = _; rw [show pqG q i = p by unfold pqG; rw [List.getD_eq_getElem?_getD, hp]; rfl]
   obtain ⟨pa, pb, xs⟩ := p
   dsimp only at hpx hfi
   change _ = [PV.v (.int .u32 pa), qi pb, .sl xs.length 1 (bs xs)] at hch
   have hC := pchk_s pa pb xs.length (bs xs) qk
   generalize hL : q.flatMap PQ.pv = L at *
   generalize bs xs = X at *
   generalize xs.length = N at *
   refine G [6] ?_
   refine zaa (zam U93 rfl sz93 qL (hch)) rfl rfl ?_
   refine jdZ (zaJ 14 zr93 rfl) ?_
   refine jdZ (zac (Y := .agg [qe pa, qe pb, .p (.sl N 1 X)]) sz93 rfl rfl (qaB rfl)) ?_
   refine G [8, 9, 0] ?_
   refine cX ?_ ?_ <;> intro h
   ·have h6 : 200 < N := by simp at h; omega
    rw [if_pos h6] at hfi
    rw [hhit (by rw [hfi]; decide), hfi] at hE
    subst hE
    refine G [5, 9, 0] ?_
    exact yE
   ·have h6 : ¬ 200 < N := by simp at h; omega
    clear h
    refine G [5, 9, 0] ?_
    refine ⟨m - 1, qk, _, zad id _ _ ?_ ?_ rfl, i + 1, qk, fun j hj => ?_, rfl⟩
    ·(repeat (first | exact trivial | (refine ⟨⟨qu, rfl⟩, ?_⟩)))
    ·trivial
    ·by_cases ej : j = i
     ·rw [ej, hfi, if_neg h6]
     ·exact hf j qk
  have hge : i = q.length := by simp at h; omega
  clear h
  subst hge
  rw [zcD hf] at hE
  subst hE
  refine G [6, 9, 0] ?_
  exact yE
 | true =>
  rw [if_neg (show ¬ true = false by decide)] at hE
  refine G [15, 9, 0] ?_
  refine cX ?_ ?_ <;> intro h
  ·have h2 : nc.size ≠ 16 := by simp at h; omega
   rw [if_pos h2, if_pos (by decide)] at hE
   subst hE
   refine G [5, 9, 0] ?_
   exact yE
  have h2 : nc.size = 16 := by simp at h; omega
  clear h
  rw [if_neg (show ¬ nc.size ≠ 16 by simp [h2])] at hE
  by_cases h3 : hexE nc ≠ 0
  ·rw [if_pos h3, if_pos h3] at hE
   obtain ⟨g1, g2⟩ := zbK rfl h3
   rw [g1, g2] at hN
   subst hE
   generalize hexE nc = he at *
   refine G [6] ?_
   refine cV hN ?_
   refine G [11, 9, 0] ?_
   refine cX ?_ ?_ <;> intro h
   ·refine G [6, 9, 0] ?_
    exact yE
   ·exact absurd qG h3
  rw [if_neg h3] at hE
  replace h3 : hexE nc = 0 := qaH.1 h3
  obtain ⟨g1, g2⟩ := zcr h3
  rw [g1, g2] at hN
  clear g1 g2
  refine G [6] ?_
  refine cV hN ?_
  refine G [9, 1, 12, 2, 4, 2, 6, 2, 4, 2, 1, 9, 0] ?_
  refine cX ?_ ?_ <;> intro h
  ·have h5 : mine < 1 ∨ 4294967295 < mine ∨ hb < 0 ∨ hs < hb ∨ 1099511627776 < hs := by simp at h; omega
   rw [if_pos h5, if_pos (by decide)] at hE
   subst hE
   refine G [5, 9, 0] ?_
   exact yE
  have h5 : ¬ (mine < 1 ∨ 4294967295 < mine ∨ hb < 0 ∨ hs < hb ∨ 1099511627776 < hs) := by simp at h; omega
  clear h
  rw [if_neg h5, if_neg (by simp)] at hE
  refine G [6] ?_
  refine cV hEn ?_
  refine G [16, 2, 1, 9, 0] ?_
  refine cX ?_ ?_ <;> intro h
  ·have h4 : ep ≠ ⟨#[]⟩ ∧ e1 ≠ 0 := by simpa using h
   rw [if_pos h4] at hE
   subst hE
   refine G [6, 9, 0] ?_
   exact yE
  have h4 : ¬ (ep ≠ ⟨#[]⟩ ∧ e1 ≠ 0) := by
   intro ⟨h5, h6⟩
   simp [h5, h6] at h
  clear h
  rw [if_neg h4] at hE
  refine G [9, 9, 0] ?_
  refine cX ?_ ?_ <;> intro h
  ·have h5 : 3 < q.length := by simp at h; omega
   rw [if_pos h5] at hE
   subst hE
   refine G [5, 9, 0] ?_
   exact yE
  have h5 : ¬ 3 < q.length := by simp at h; omega
  clear h
  rw [if_neg h5] at hE
  unfold pqE at hE
  obtain ⟨f, hF⟩ : ∃ f, (fun i => if 200 < (pqG q i).xs.length then 1 else 0 : Nat → Int) = f := ⟨_, rfl⟩
  rw [hF] at hE
  refine G [10] ?_
  refine zae (fun m st => ∃ i : Nat, m + i = q.length ∧ (∀ j, j < i → f j = 0) ∧ st = St.of [(122, .p (.sl q.length 3 (q.flatMap PQ.pv))), (123, qd q.length), (124, qd i)] []) q.length ?_ ?_
  ·refine ⟨_, zad id _ _ ?_ ?_ rfl, 0, qk, qk, rfl⟩
   ·(repeat (first | exact trivial | (refine ⟨⟨qu, rfl⟩, ?_⟩)))
   ·trivial
  rintro m st ⟨i, hi, hf, rfl⟩
  refine G [5] ?_
  refine cX ?_ ?_ <;> intro h
  ·have hlt : i < q.length := by simp at h; omega
   clear h
   obtain ⟨p, hp⟩ : ∃ p, q[i]? = some p := ⟨q[i], List.getElem?_eq_getElem hlt⟩
   have hch := zaj (f := PQ.pv) (k := 3) (fun _ => rfl) hp
   have hle := zak (f := PQ.pv) (k := 3) (fun _ => rfl) hlt
   have hpx := hqx p (qaE hp)
   have hhit := @zb8 f i q.length hf hlt
   have hfi : f i = if 200 < p.xs.length then 1 else 0 := by rw [← hF]; show (if 200 < (pqG q i).xs.length then (1 : Int) else 0) = _; rw [show pqG q i = p by unfold pqG; rw [List.getD_eq_getElem?_getD, hp]; rfl]
   obtain ⟨pa, pb, xs⟩ := p
   dsimp only at hpx hfi
   change _ = [PV.v (.int .u32 pa), qi pb, .sl xs.length 1 (bs xs)] at hch
   have hC := pchk_s pa pb xs.length (bs xs) qk
   generalize hL : q.flatMap PQ.pv = L at *
   generalize bs xs = X at *
   generalize xs.length = N at *
   refine G [6] ?_
   refine zaa (zam U93 rfl sz93 qL (hch)) rfl rfl ?_
   refine jdZ (zaJ 14 zr93 rfl) ?_
   refine jdZ (zac (Y := .agg [qe pa, qe pb, .p (.sl N 1 X)]) sz93 rfl rfl (qaB rfl)) ?_
   refine G [8, 9, 0] ?_
   refine cX ?_ ?_ <;> intro h
   ·have h6 : 200 < N := by simp at h; omega
    rw [if_pos h6] at hfi
    rw [hhit (by rw [hfi]; decide), hfi] at hE
    subst hE
    refine G [5, 9, 0] ?_
    exact yE
   ·have h6 : ¬ 200 < N := by simp at h; omega
    clear h
    refine G [5, 9, 0] ?_
    refine ⟨m - 1, qk, _, zad id _ _ ?_ ?_ rfl, i + 1, qk, fun j hj => ?_, rfl⟩
    ·(repeat (first | exact trivial | (refine ⟨⟨qu, rfl⟩, ?_⟩)))
    ·trivial
    ·by_cases ej : j = i
     ·rw [ej, hfi, if_neg h6]
     ·exact hf j qk
  have hge : i = q.length := by simp at h; omega
  clear h
  subst hge
  rw [zcD hf] at hE
  subst hE
  refine G [6, 9, 0] ?_
  exact yE
end Go.Proofs.YtlfjpippeeikdaaGreatDoor
