/- table.Right, the reference's StateFault, over data. -/
import Derived.Test.YtbjdjclkbjpebaaGreatDoorSBt1
import Derived.Test.YtbjdjclkbjpebaaGreatDoorSHs
namespace Go.Proofs.YtbjdjclkbjpebaaGreatDoor
open Tryz
open Go.RowKit Go.Sort
set_option maxHeartbeats 16000000
set_option linter.unusedVariables false
set_option linter.unusedSimpArgs false
set_option maxRecDepth 100000
structure PQ where
 a : Int
 b : Int
 xs : List Int
def PQ.pv (p : PQ) : List PV := [.v (.int .u32 p.a), .v (.int .u32 p.b), .sl p.xs.length 1 (bs p.xs)]
theorem pchk_s (a b : Int) (n : Nat) (cs : List PV) (hn : n ≤ 140737488355328) : Fn prog 95 [.agg [.p (.v (.int .u32 a)), .p (.v (.int .u32 b)), .p (.sl n 1 cs)]] (.p (.v (.int .i64 (if 200 < n then 1 else 0)))) [] := by
 refine fnI fun w0 A => ?_
 refine G [13, 9, 0] ?_
 refine cX (fun h => ?_) fun h => ?_
 ·have h1 : 200 < n := by simp at h; omega
  rw [if_pos h1]
  refine jct ?_
  exact yE
 ·have h1 : ¬ 200 < n := by simp at h; omega
  rw [if_neg h1]
  refine jcs ?_
  exact yE
def zc4 (a b c : KY) : List AV := a.cells ++ b.cells ++ c.cells
def zdP (a b c : KY) : List PV := a.pv ++ b.pv ++ c.pv
def zc2 (a b c : KY) (i : Nat) : KY := if i = 0 then a else if i = 1 then b else c
theorem three_at (a b c : KY) (i : Nat) (h : i < 3) : ((zc4 a b c).drop (i * 11)).take 11 = (zc2 a b c i).cells := by
 exact jbX
theorem three_atV (a b c : KY) (i : Nat) (h : i < 3) : ((zdP a b c).drop (i * 11)).take 11 = (zc2 a b c i).pv := by
 exact jbX
theorem three_ok {a b c : KY} (ha : a.OK) (hb : b.OK) (hc : c.OK) (i : Nat) : (zc2 a b c i).OK := by
 unfold zc2
 split
 ·exact ha
 ·split
  ·exact hb
  ·exact hc
structure ST where
 key : ByteArray
 ep : ByteArray
 a : KY
 b : KY
 c : KY
 h : HS
 q : List PQ
def HS0 : HS := ⟨false, 0, ⟨#[]⟩, 0, 0⟩
def stC (key ep : ByteArray) (a b c : KY) (h : HS) (n : Nat) (q : List PV) : List AV := [.p (.v (.string key)), .p (.v (.string ep))] ++ zc4 a b c ++ h.cells ++ [.p (.sl n 3 q)]
def ST.cells (s : ST) : List AV := stC s.key s.ep s.a s.b s.c s.h s.q.length (s.q.flatMap PQ.pv)
def ST.pv (s : ST) : List PV := [.v (.string s.key), .v (.string s.ep)] ++ zdP s.a s.b s.c ++ s.h.pv ++ [.sl s.q.length 3 (s.q.flatMap PQ.pv)]
structure ST.OK (s : ST) : Prop where
 ep : s.ep.size < 4294967281
 a : s.a.OK
 b : s.b.OK
 c : s.c.OK
 q : s.q.length ≤ 1048576
 qx : ∀ p ∈ s.q, p.xs.length ≤ 1048576
def hsE (h : HS) : Int :=
 if h.lv = false then (if h.mine = 0 ∧ h.nc = ⟨#[]⟩ ∧ h.b = 0 ∧ h.s = 0 then 0 else 14) else if h.nc.size ≠ 16 then 1 else if hexE h.nc ≠ 0 then hexE h.nc
 else if h.mine < 1 ∨ 4294967295 < h.mine ∨ h.b < 0 ∨ h.s < h.b ∨ 1099511627776 < h.s then 4 else 0
noncomputable def ksE (a b c : KY) : Int := fnz (fun i => kE (zc2 a b c i)) 3
def pqG (l : List PQ) (i : Nat) : PQ := l.getD i ⟨0, 0, []⟩
def pqE (l : List PQ) : Int := fnz (fun i => if 200 < (pqG l i).xs.length then 1 else 0) l.length
noncomputable def stE (s : ST) : Int :=
 if keyE s.key ≠ 0 then keyE s.key else if ksE s.a s.b s.c ≠ 0 then ksE s.a s.b s.c else if hsE s.h ≠ 0 then hsE s.h
 else if s.ep ≠ ⟨#[]⟩ ∧ enE s.ep ≠ 0 then enE s.ep else if 3 < s.q.length then 1 else pqE s.q
theorem eqHand (m : Int) (n : ByteArray) (b s : Int) : eqL [.bool false, .int .i64 m, .string n, .int .i64 b, .int .i64 s] [.bool false, .int .i64 0, .string ⟨#[]⟩, .int .i64 0, .int .i64 0] = decide (m = 0 ∧ n = ⟨#[]⟩ ∧ b = 0 ∧ s = 0) := by
 rw [Bool.eq_iff_iff, zaQ]
 simp
theorem tright_s (s : ST) (ok : s.OK) : Fn prog 58 [.agg s.cells] (.p (.v (.int .i64 (stE s)))) [] := by
 obtain ⟨key, ep, a, b, c, h0, q⟩ := s
 obtain ⟨hep, oa, ob, oc, hq, hqx⟩ := ok
 dsimp only at hep oa ob oc hq hqx
 obtain ⟨E, hE⟩ : ∃ E, stE ⟨key, ep, a, b, c, h0, q⟩ = E := ⟨_, rfl⟩
 rw [hE]
 unfold stE at hE
 dsimp only at hE
 have hK := zbf key
 have hEn := end_s ep hep
 obtain ⟨ea, eb, hen⟩ := enR_e ep
 rw [hen] at hEn
 clear hen
 have h3a := three_at a b c
 have h3o := three_ok oa ob oc
 have hks : ksE a b c = fnz (fun i => kE (zc2 a b c i)) 3 := rfl
 generalize hT : zc2 a b c = T at *
 show Fn prog _ [.agg (stC key ep a b c h0 q.length (q.flatMap PQ.pv))] _ _
 generalize keyE key = k1 at *
 generalize enE ep = e1 at *
 refine fnI fun w0 A => ?_
 refine G [10] ?_
 refine cV hK ?_
 refine jcq ?_
 refine cX (fun h => ?_) fun h => ?_
 ·exact jb9
 have h1 : k1 = 0 := by simpa using h
 clear h
 rw [if_neg (by simp [h1])] at hE
 refine G [6] ?_
 refine jdf ?_
 refine G [2] ?_
 refine jdg ?_
 refine G [2] ?_
 refine jdh ?_
 refine zaa (xs := [.agg a.cells, .agg b.cells, .agg c.cells]) (zcV (es := (a.cells ++ b.cells ++ c.cells)) underlying148 zr148 rfl sz49 (by kernel_rfl)) (by first | rfl | kernel_rfl) rfl ?_
 refine G [3] ?_
 refine zag (fun m st => ∃ i : Nat, m + i = 3 ∧ (∀ j, j < i → kE (T j) = 0) ∧ st = St.of [(1, .ref 1 0), (31, .agg (zc4 a b c)), (32, .p (.v (.int .i64 i)))] [(1, .box 56 (stC key ep a b c h0 q.length (q.flatMap PQ.pv)))]) 3 ?_ ?_
 ·exact jar
 rintro m st ⟨i, hi, hf, rfl⟩
 refine G [5] ?_
 refine cX (fun h => ?_) fun h => ?_
 ·have hlt : i < 3 := by simp at h; omega
  clear h
  have hix := h3a i hlt
  have hC := kcheck_s (T i) (h3o i)
  have hhit := @zcd (fun i => kE (T i)) i 3 hf hlt
  generalize hTx : T i = x at *
  refine G [5] ?_
  refine zaa (a_indexN underlying148 sz49 U49 rfl (by omega) (by omega) (show _ = x.cells by rw [Int.toNat_natCast]; exact hix)) rfl rfl ?_
  refine jdA (zaX 5 zr49 rfl) ?_
  refine jdA (zaf (Y := .agg x.cells) sz49 rfl rfl (Nat.eq_of_beq_eq_true rfl)) ?_
  refine G [3] ?_
  refine jdi ?_
  refine cK hC ?_
  refine jcq ?_
  refine cX (fun h => ?_) fun h => ?_
  ·exact jcc
  have he : kE x = 0 := by simpa using h
  refine jct ?_
  refine ⟨m - 1, by omega, _, zah id _ _ ?_ ?_ rfl, i + 1, by omega, fun j hj => ?_, rfl⟩
  ·exact jak
  ·exact ⟨⟨rfl, rfl⟩, trivial⟩
  ·by_cases ej : j = i
   ·rw [ej, hTx]; exact he
   ·exact hf j (by omega)
 have hge : i = 3 := by simp at h; omega
 clear h
 subst hge
 rw [hks, zcN hf, if_neg (by simp)] at hE
 clear hf h3a h3o hks hT
 obtain ⟨lv, mine, nc, hb, hs⟩ := h0
 unfold hsE at hE
 dsimp only at hE
 have hN := zci nc
 refine G [4] ?_
 refine jcT ?_
 refine jdA (zaX 7 zr53 rfl) ?_
 refine jc2 ?_
 refine zac ?_
 cases lv with
 | false =>
  rw [if_pos rfl] at hE
  by_cases hz : mine = 0 ∧ nc = ⟨#[]⟩ ∧ hb = 0 ∧ hs = 0
  ·rw [if_pos hz, if_neg (by simp)] at hE
   refine G [7] ?_
   refine zab (zak U53 rfl sz53 (by first | exact Nat.le_of_ble_eq_true rfl | omega | (simp only [AV.cells, List.length_map]; omega)) (show _ = [.p (.v (.bool false)), .p (.v (.int .i64 mine)), .p (.v (.string nc)), .p (.v (.int .i64 hb)), .p (.v (.int .i64 hs))] from rfl)) rfl rfl ⟨rfl, trivial⟩ ?_
   refine jdz (zcB pl53 zr53 rfl rfl) ?_
   refine zaa (zaC U53 rfl rfl (by kernel_rfl) (by kernel_rfl) (by kernel_rfl) (c := false) (by rw [eqHand]; simp [hz])) rfl rfl ?_
   refine G [11] ?_
   by_cases h4 : ep ≠ ⟨#[]⟩ ∧ e1 ≠ 0
   ·rw [if_pos h4] at hE
    subst hE
    refine G [8, 9, 0] ?_
    refine cX (fun h => ?_) fun h => ?_
    ·refine G [4] ?_
     refine cV hEn ?_
     refine G [13, 9, 0] ?_
     refine cX (fun h => ?_) fun h => ?_
     ·refine G [6, 9, 0] ?_
      exact yE
     ·exact absurd (by simpa using h) h4.2
    ·exact absurd (by simpa using h) h4.1
   rw [if_neg h4] at hE
   refine G [8, 9, 0] ?_
   refine zcH (St.of [(1, .ref 1 0)] [(1, .box 56 (stC key ep a b c ⟨false, mine, nc, hb, hs⟩ q.length (q.flatMap PQ.pv)))]) ?_ ?_
   ·skip
    refine cX (fun h => ?_) fun h => ?_
    ·refine G [4] ?_
     refine cV hEn ?_
     refine G [13, 9, 0] ?_
     refine cX (fun h => ?_) fun h => ?_
     ·exact absurd ⟨by simp_all, by simpa using h⟩ h4
     ·refine zap (zaz ?_)
      exact zah id _ _ (by repeat (first | exact trivial | refine ⟨⟨rfl, rfl⟩, ?_⟩)) (by repeat (first | exact trivial | refine ⟨⟨rfl, rfl⟩, ?_⟩)) rfl
    ·refine zap (zaz ?_)
     exact zah id _ _ (by repeat (first | exact trivial | refine ⟨⟨rfl, rfl⟩, ?_⟩)) (by repeat (first | exact trivial | refine ⟨⟨rfl, rfl⟩, ?_⟩)) rfl
   clear h4
   refine G [8, 9, 0] ?_
   refine cX (fun h => ?_) fun h => ?_
   ·have h5 : 3 < q.length := by simp at h; omega
    rw [if_pos h5] at hE
    subst hE
    refine G [5, 9, 0] ?_
    exact yE
   have h5 : ¬ 3 < q.length := by simp at h; omega
   clear h
   rw [if_neg h5] at hE
   unfold pqE at hE
   obtain ⟨f, hF⟩ : ∃ f, (fun i => if 200 < (pqG q i).xs.length then 1 else 0 : Nat → Int) = f := ⟨_, rfl⟩
   rw [hF] at hE
   refine G [10] ?_
   refine zag (fun m st => ∃ i : Nat, m + i = q.length ∧ (∀ j, j < i → f j = 0) ∧ st = St.of [(109, .p (.sl q.length 3 (q.flatMap PQ.pv))), (110, .p (.v (.int .i64 q.length))), (111, .p (.v (.int .i64 i)))] []) q.length ?_ ?_
   ·refine ⟨_, zah id _ _ ?_ ?_ rfl, 0, by omega, by omega, rfl⟩
    ·(repeat (first | exact trivial | (refine ⟨⟨(by first | rfl | (simp; done) | (simp; omega)), rfl⟩, ?_⟩)))
    ·trivial
   rintro m st ⟨i, hi, hf, rfl⟩
   refine G [5] ?_
   refine cX (fun h => ?_) fun h => ?_
   ·have hlt : i < q.length := by simp at h; omega
    clear h
    obtain ⟨p, hp⟩ : ∃ p, q[i]? = some p := ⟨q[i], List.getElem?_eq_getElem hlt⟩
    have hch := zar (f := PQ.pv) (k := 3) (fun _ => rfl) hp
    have hle := zas (f := PQ.pv) (k := 3) (fun _ => rfl) hlt
    have hpx := hqx p (List.mem_of_getElem? hp)
    have hhit := @zcd f i q.length hf hlt
    have hfi : f i = if 200 < p.xs.length then 1 else 0 := by rw [← hF]; show (if 200 < (pqG q i).xs.length then (1 : Int) else 0) = _; rw [show pqG q i = p by unfold pqG; rw [List.getD_eq_getElem?_getD, hp]; rfl]
    obtain ⟨pa, pb, xs⟩ := p
    dsimp only at hpx hfi
    change _ = [PV.v (.int .u32 pa), .v (.int .u32 pb), .sl xs.length 1 (bs xs)] at hch
    have hC := pchk_s pa pb xs.length (bs xs) (by omega)
    generalize hL : q.flatMap PQ.pv = L at *
    generalize bs xs = X at *
    generalize xs.length = N at *
    refine G [6] ?_
    refine zaa (zaI U108 rfl zd4 (by rw [List.length_drop]; omega) (hch)) rfl rfl ?_
    refine jdA (zaX 14 zr108 rfl) ?_
    refine jdA (zaf (Y := .agg [.p (.v (.int .u32 pa)), .p (.v (.int .u32 pb)), .p (.sl N 1 X)]) zd4 rfl rfl (Nat.eq_of_beq_eq_true rfl)) ?_
    refine zac ?_
    by_cases h6 : 200 < N
    ·rw [if_pos h6] at hC hfi
     rw [hhit (by rw [hfi]; decide), hfi] at hE
     subst hE
     refine G [3] ?_
     refine cK hC ?_
     refine G [14, 9, 0] ?_
     exact yE
    ·rw [if_neg h6] at hC
     refine G [3] ?_
     refine cK hC ?_
     refine G [5, 1, 7, 9, 0] ?_
     refine ⟨m - 1, by omega, _, zah id _ _ ?_ ?_ rfl, i + 1, by omega, fun j hj => ?_, rfl⟩
     ·(repeat (first | exact trivial | (refine ⟨⟨(by first | rfl | (simp; done) | (simp; omega)), rfl⟩, ?_⟩)))
     ·trivial
     ·by_cases ej : j = i
      ·rw [ej, hfi, if_neg h6]
      ·exact hf j (by omega)
   have hge : i = q.length := by simp at h; omega
   clear h
   subst hge
   rw [zcN hf] at hE
   subst hE
   refine G [6, 9, 0] ?_
   exact yE
  ·rw [if_neg hz, if_pos (by decide)] at hE
   subst hE
   refine G [7] ?_
   refine zab (zak U53 rfl sz53 (by first | exact Nat.le_of_ble_eq_true rfl | omega | (simp only [AV.cells, List.length_map]; omega)) (show _ = [.p (.v (.bool false)), .p (.v (.int .i64 mine)), .p (.v (.string nc)), .p (.v (.int .i64 hb)), .p (.v (.int .i64 hs))] from rfl)) rfl rfl ⟨rfl, trivial⟩ ?_
   refine jdz (zcB pl53 zr53 rfl rfl) ?_
   refine zaa (zaC U53 rfl rfl (by kernel_rfl) (by kernel_rfl) (by kernel_rfl) (c := true) (by rw [eqHand]; simp only [Bool.not_eq_true', decide_eq_false_iff_not]; exact hz)) rfl rfl ?_
   refine G [8, 9, 0] ?_
   exact yE
 | true =>
  rw [if_neg (show ¬ true = false by decide)] at hE
  refine G [29, 9, 0] ?_
  refine cX (fun h => ?_) fun h => ?_
  ·have h2 : nc.size ≠ 16 := by simp at h; omega
   rw [if_pos h2, if_pos (by decide)] at hE
   subst hE
   refine G [5, 9, 0] ?_
   exact yE
  have h2 : nc.size = 16 := by simp at h; omega
  clear h
  rw [if_neg (show ¬ nc.size ≠ 16 by simp [h2])] at hE
  by_cases h3 : hexE nc ≠ 0
  ·rw [if_pos h3, if_pos h3] at hE
   obtain ⟨g1, g2⟩ := zbw rfl h3
   rw [g1, g2] at hN
   subst hE
   generalize hexE nc = he at *
   refine G [6] ?_
   refine cV hN ?_
   refine G [11, 9, 0] ?_
   refine cX (fun h => ?_) fun h => ?_
   ·refine G [6, 9, 0] ?_
    exact yE
   ·exact absurd (by simpa using h) h3
  rw [if_neg h3] at hE
  replace h3 : hexE nc = 0 := Decidable.not_not.1 h3
  obtain ⟨g1, g2⟩ := za1 h3
  rw [g1, g2] at hN
  clear g1 g2
  refine G [6] ?_
  refine cV hN ?_
  refine G [9, 1, 12, 2, 4, 2, 6, 2, 4, 2, 1, 9, 0] ?_
  refine cX (fun h => ?_) fun h => ?_
  ·have h5 : mine < 1 ∨ 4294967295 < mine ∨ hb < 0 ∨ hs < hb ∨ 1099511627776 < hs := by simp at h; omega
   rw [if_pos h5, if_pos (by decide)] at hE
   subst hE
   refine G [5, 9, 0] ?_
   exact yE
  have h5 : ¬ (mine < 1 ∨ 4294967295 < mine ∨ hb < 0 ∨ hs < hb ∨ 1099511627776 < hs) := by simp at h; omega
  clear h
  rw [if_neg h5, if_neg (by simp)] at hE
  by_cases h4 : ep ≠ ⟨#[]⟩ ∧ e1 ≠ 0
  ·rw [if_pos h4] at hE
   subst hE
   refine G [8, 9, 0] ?_
   refine cX (fun h => ?_) fun h => ?_
   ·refine G [4] ?_
    refine cV hEn ?_
    refine G [13, 9, 0] ?_
    refine cX (fun h => ?_) fun h => ?_
    ·refine G [6, 9, 0] ?_
     exact yE
    ·exact absurd (by simpa using h) h4.2
   ·exact absurd (by simpa using h) h4.1
  rw [if_neg h4] at hE
  refine G [8, 9, 0] ?_
  refine zcH (St.of [(1, .ref 1 0)] [(1, .box 56 (stC key ep a b c ⟨true, mine, nc, hb, hs⟩ q.length (q.flatMap PQ.pv)))]) ?_ ?_
  ·skip
   refine cX (fun h => ?_) fun h => ?_
   ·refine G [4] ?_
    refine cV hEn ?_
    refine G [13, 9, 0] ?_
    refine cX (fun h => ?_) fun h => ?_
    ·exact absurd ⟨by simp_all, by simpa using h⟩ h4
    ·refine zap (zaz ?_)
     exact zah id _ _ (by repeat (first | exact trivial | refine ⟨⟨rfl, rfl⟩, ?_⟩)) (by repeat (first | exact trivial | refine ⟨⟨rfl, rfl⟩, ?_⟩)) rfl
   ·refine zap (zaz ?_)
    exact zah id _ _ (by repeat (first | exact trivial | refine ⟨⟨rfl, rfl⟩, ?_⟩)) (by repeat (first | exact trivial | refine ⟨⟨rfl, rfl⟩, ?_⟩)) rfl
  clear h4
  refine G [8, 9, 0] ?_
  refine cX (fun h => ?_) fun h => ?_
  ·have h5 : 3 < q.length := by simp at h; omega
   rw [if_pos h5] at hE
   subst hE
   refine G [5, 9, 0] ?_
   exact yE
  have h5 : ¬ 3 < q.length := by simp at h; omega
  clear h
  rw [if_neg h5] at hE
  unfold pqE at hE
  obtain ⟨f, hF⟩ : ∃ f, (fun i => if 200 < (pqG q i).xs.length then 1 else 0 : Nat → Int) = f := ⟨_, rfl⟩
  rw [hF] at hE
  refine G [10] ?_
  refine zag (fun m st => ∃ i : Nat, m + i = q.length ∧ (∀ j, j < i → f j = 0) ∧ st = St.of [(109, .p (.sl q.length 3 (q.flatMap PQ.pv))), (110, .p (.v (.int .i64 q.length))), (111, .p (.v (.int .i64 i)))] []) q.length ?_ ?_
  ·refine ⟨_, zah id _ _ ?_ ?_ rfl, 0, by omega, by omega, rfl⟩
   ·(repeat (first | exact trivial | (refine ⟨⟨(by first | rfl | (simp; done) | (simp; omega)), rfl⟩, ?_⟩)))
   ·trivial
  rintro m st ⟨i, hi, hf, rfl⟩
  refine G [5] ?_
  refine cX (fun h => ?_) fun h => ?_
  ·have hlt : i < q.length := by simp at h; omega
   clear h
   obtain ⟨p, hp⟩ : ∃ p, q[i]? = some p := ⟨q[i], List.getElem?_eq_getElem hlt⟩
   have hch := zar (f := PQ.pv) (k := 3) (fun _ => rfl) hp
   have hle := zas (f := PQ.pv) (k := 3) (fun _ => rfl) hlt
   have hpx := hqx p (List.mem_of_getElem? hp)
   have hhit := @zcd f i q.length hf hlt
   have hfi : f i = if 200 < p.xs.length then 1 else 0 := by rw [← hF]; show (if 200 < (pqG q i).xs.length then (1 : Int) else 0) = _; rw [show pqG q i = p by unfold pqG; rw [List.getD_eq_getElem?_getD, hp]; rfl]
   obtain ⟨pa, pb, xs⟩ := p
   dsimp only at hpx hfi
   change _ = [PV.v (.int .u32 pa), .v (.int .u32 pb), .sl xs.length 1 (bs xs)] at hch
   have hC := pchk_s pa pb xs.length (bs xs) (by omega)
   generalize hL : q.flatMap PQ.pv = L at *
   generalize bs xs = X at *
   generalize xs.length = N at *
   refine G [6] ?_
   refine zaa (zaI U108 rfl zd4 (by rw [List.length_drop]; omega) (hch)) rfl rfl ?_
   refine jdA (zaX 14 zr108 rfl) ?_
   refine jdA (zaf (Y := .agg [.p (.v (.int .u32 pa)), .p (.v (.int .u32 pb)), .p (.sl N 1 X)]) zd4 rfl rfl (Nat.eq_of_beq_eq_true rfl)) ?_
   refine zac ?_
   by_cases h6 : 200 < N
   ·rw [if_pos h6] at hC hfi
    rw [hhit (by rw [hfi]; decide), hfi] at hE
    subst hE
    refine G [3] ?_
    refine cK hC ?_
    refine G [14, 9, 0] ?_
    exact yE
   ·rw [if_neg h6] at hC
    refine G [3] ?_
    refine cK hC ?_
    refine G [13, 9, 0] ?_
    refine ⟨m - 1, by omega, _, zah id _ _ ?_ ?_ rfl, i + 1, by omega, fun j hj => ?_, rfl⟩
    ·(repeat (first | exact trivial | (refine ⟨⟨(by first | rfl | (simp; done) | (simp; omega)), rfl⟩, ?_⟩)))
    ·trivial
    ·by_cases ej : j = i
     ·rw [ej, hfi, if_neg h6]
     ·exact hf j (by omega)
  have hge : i = q.length := by simp at h; omega
  clear h
  subst hge
  rw [zcN hf] at hE
  subst hE
  refine G [6, 9, 0] ?_
  exact yE
theorem refState_s (s : ST) (ok : s.OK) : Fn prog 76 [.agg s.cells] (.p (.v (.int .i64 (stE s)))) [] := by
 obtain ⟨key, ep, a, b, c, h0, q⟩ := s
 obtain ⟨hep, oa, ob, oc, hq, hqx⟩ := ok
 dsimp only at hep oa ob oc hq hqx
 obtain ⟨E, hE⟩ : ∃ E, stE ⟨key, ep, a, b, c, h0, q⟩ = E := ⟨_, rfl⟩
 rw [hE]
 unfold stE at hE
 dsimp only at hE
 have hK := za9 key
 have hEn := zia ep hep
 obtain ⟨ea, eb, hen⟩ := enR_e ep
 rw [hen] at hEn
 clear hen
 have h3a := three_atV a b c
 have h3o := three_ok oa ob oc
 have hks : ksE a b c = fnz (fun i => kE (zc2 a b c i)) 3 := rfl
 generalize hT : zc2 a b c = T at *
 show Fn prog _ [.agg (stC key ep a b c h0 q.length (q.flatMap PQ.pv))] _ _
 generalize keyE key = k1 at *
 generalize enE ep = e1 at *
 refine fnI fun w0 A => ?_
 refine G [10] ?_
 refine cV hK ?_
 refine jcq ?_
 refine cX (fun h => ?_) fun h => ?_
 ·exact jb9
 have h1 : k1 = 0 := by simpa using h
 clear h
 rw [if_neg (by simp [h1])] at hE
 refine G [6] ?_
 refine jdf ?_
 refine G [2] ?_
 refine jdg ?_
 refine G [2] ?_
 refine jdh ?_
 refine zab (xs := [.agg a.cells, .agg b.cells, .agg c.cells]) (zae (es := (a.cells ++ b.cells ++ c.cells)) (cs := (a.pv ++ b.pv ++ c.pv)) 30 underlying169 sz49 zc49 (Nat.le_of_ble_eq_true rfl) (Nat.le_of_ble_eq_true rfl) rfl (by kernel_rfl) (by kernel_rfl) (by kernel_rfl) (Nat.le_of_ble_eq_true rfl)) (by first | rfl | kernel_rfl) rfl ⟨rfl, trivial⟩ ?_
 refine G [4] ?_
 refine zag (fun m st => ∃ i : Nat, m + i = 3 ∧ (∀ j, j < i → kE (T j) = 0) ∧ st = St.of [(1, .ref 1 0), (30, .row 30), (31, .p (.v (.int .i64 3))), (32, .p (.v (.int .i64 i)))] [(1, .box 56 (stC key ep a b c h0 q.length (q.flatMap PQ.pv))), (30, .row 49 11 3 (zdP a b c))]) 3 ?_ ?_
 ·exact jaB
 rintro m st ⟨i, hi, hf, rfl⟩
 refine G [5] ?_
 refine cX (fun h => ?_) fun h => ?_
 ·have hlt : i < 3 := by simp at h; omega
  clear h
  have hix := h3a i hlt
  have hsl : (zdP a b c).length = 33 := rfl
  have hC := refKFault_s (T i) (h3o i)
  have hhit := @zcd (fun i => kE (T i)) i 3 hf hlt
  generalize hTx : T i = x at *
  refine G [5] ?_
  refine zab (zan underlying169 sz49 (by omega) (by omega) (show _ = i * 11 by omega)) rfl rfl ⟨rfl, trivial⟩ ?_
  refine zab (zb8 U49 rfl sz49 (by omega) (hix)) rfl rfl ⟨rfl, trivial⟩ ?_
  refine jdA (zaX 5 zr49 rfl) ?_
  refine jdA (zaf (Y := .agg x.cells) sz49 rfl rfl (Nat.eq_of_beq_eq_true rfl)) ?_
  refine G [3] ?_
  refine jdi ?_
  refine cK hC ?_
  refine jcq ?_
  refine cX (fun h => ?_) fun h => ?_
  ·exact jcc
  have he : kE x = 0 := by simpa using h
  refine jct ?_
  refine ⟨m - 1, by omega, _, zah id _ _ ?_ ?_ rfl, i + 1, by omega, fun j hj => ?_, rfl⟩
  ·exact jak
  ·exact ⟨⟨rfl, rfl⟩, ⟨rfl, rfl⟩, trivial⟩
  ·by_cases ej : j = i
   ·rw [ej, hTx]; exact he
   ·exact hf j (by omega)
 have hge : i = 3 := by simp at h; omega
 clear h
 subst hge
 rw [hks, zcN hf, if_neg (by simp)] at hE
 clear hf h3a h3o hks hT
 obtain ⟨lv, mine, nc, hb, hs⟩ := h0
 unfold hsE at hE
 dsimp only at hE
 have hN := zcw nc
 refine G [4] ?_
 refine jcT ?_
 refine jdA (zaX 7 zr53 rfl) ?_
 refine jc2 ?_
 refine zac ?_
 cases lv with
 | false =>
  rw [if_pos rfl] at hE
  refine G [16, 2, 4, 2, 4, 2, 1, 9, 0] ?_
  refine cX (fun h => ?_) fun h => ?_
  ·have hz : ¬ (mine = 0 ∧ nc = ⟨#[]⟩ ∧ hb = 0 ∧ hs = 0) := by
    intro ⟨z1, z2, z3, z4⟩
    simp [z1, z2, z3, z4] at h
   rw [if_neg hz, if_pos (by decide)] at hE
   subst hE
   refine G [5, 9, 0] ?_
   exact yE
  have hz : mine = 0 ∧ nc = ⟨#[]⟩ ∧ hb = 0 ∧ hs = 0 := by
   simp at h
   grind
  clear h
  rw [if_pos hz, if_neg (by simp)] at hE
  refine G [6] ?_
  refine cV hEn ?_
  refine G [16, 2, 1, 9, 0] ?_
  refine cX (fun h => ?_) fun h => ?_
  ·have h4 : ep ≠ ⟨#[]⟩ ∧ e1 ≠ 0 := by simpa using h
   rw [if_pos h4] at hE
   subst hE
   refine G [6, 9, 0] ?_
   exact yE
  have h4 : ¬ (ep ≠ ⟨#[]⟩ ∧ e1 ≠ 0) := by
   intro ⟨h5, h6⟩
   simp [h5, h6] at h
  clear h
  rw [if_neg h4] at hE
  refine G [9, 9, 0] ?_
  refine cX (fun h => ?_) fun h => ?_
  ·have h5 : 3 < q.length := by simp at h; omega
   rw [if_pos h5] at hE
   subst hE
   refine G [5, 9, 0] ?_
   exact yE
  have h5 : ¬ 3 < q.length := by simp at h; omega
  clear h
  rw [if_neg h5] at hE
  unfold pqE at hE
  obtain ⟨f, hF⟩ : ∃ f, (fun i => if 200 < (pqG q i).xs.length then 1 else 0 : Nat → Int) = f := ⟨_, rfl⟩
  rw [hF] at hE
  refine G [10] ?_
  refine zag (fun m st => ∃ i : Nat, m + i = q.length ∧ (∀ j, j < i → f j = 0) ∧ st = St.of [(122, .p (.sl q.length 3 (q.flatMap PQ.pv))), (123, .p (.v (.int .i64 q.length))), (124, .p (.v (.int .i64 i)))] []) q.length ?_ ?_
  ·refine ⟨_, zah id _ _ ?_ ?_ rfl, 0, by omega, by omega, rfl⟩
   ·(repeat (first | exact trivial | (refine ⟨⟨(by first | rfl | (simp; done) | (simp; omega)), rfl⟩, ?_⟩)))
   ·trivial
  rintro m st ⟨i, hi, hf, rfl⟩
  refine G [5] ?_
  refine cX (fun h => ?_) fun h => ?_
  ·have hlt : i < q.length := by simp at h; omega
   clear h
   obtain ⟨p, hp⟩ : ∃ p, q[i]? = some p := ⟨q[i], List.getElem?_eq_getElem hlt⟩
   have hch := zar (f := PQ.pv) (k := 3) (fun _ => rfl) hp
   have hle := zas (f := PQ.pv) (k := 3) (fun _ => rfl) hlt
   have hpx := hqx p (List.mem_of_getElem? hp)
   have hhit := @zcd f i q.length hf hlt
   have hfi : f i = if 200 < p.xs.length then 1 else 0 := by rw [← hF]; show (if 200 < (pqG q i).xs.length then (1 : Int) else 0) = _; rw [show pqG q i = p by unfold pqG; rw [List.getD_eq_getElem?_getD, hp]; rfl]
   obtain ⟨pa, pb, xs⟩ := p
   dsimp only at hpx hfi
   change _ = [PV.v (.int .u32 pa), .v (.int .u32 pb), .sl xs.length 1 (bs xs)] at hch
   have hC := pchk_s pa pb xs.length (bs xs) (by omega)
   generalize hL : q.flatMap PQ.pv = L at *
   generalize bs xs = X at *
   generalize xs.length = N at *
   refine G [6] ?_
   refine zaa (zaI U108 rfl zd4 (by rw [List.length_drop]; omega) (hch)) rfl rfl ?_
   refine jdA (zaX 14 zr108 rfl) ?_
   refine jdA (zaf (Y := .agg [.p (.v (.int .u32 pa)), .p (.v (.int .u32 pb)), .p (.sl N 1 X)]) zd4 rfl rfl (Nat.eq_of_beq_eq_true rfl)) ?_
   refine G [8, 9, 0] ?_
   refine cX (fun h => ?_) fun h => ?_
   ·have h6 : 200 < N := by simp at h; omega
    rw [if_pos h6] at hfi
    rw [hhit (by rw [hfi]; decide), hfi] at hE
    subst hE
    refine G [5, 9, 0] ?_
    exact yE
   ·have h6 : ¬ 200 < N := by simp at h; omega
    clear h
    refine G [5, 9, 0] ?_
    refine ⟨m - 1, by omega, _, zah id _ _ ?_ ?_ rfl, i + 1, by omega, fun j hj => ?_, rfl⟩
    ·(repeat (first | exact trivial | (refine ⟨⟨(by first | rfl | (simp; done) | (simp; omega)), rfl⟩, ?_⟩)))
    ·trivial
    ·by_cases ej : j = i
     ·rw [ej, hfi, if_neg h6]
     ·exact hf j (by omega)
  have hge : i = q.length := by simp at h; omega
  clear h
  subst hge
  rw [zcN hf] at hE
  subst hE
  refine G [6, 9, 0] ?_
  exact yE
 | true =>
  rw [if_neg (show ¬ true = false by decide)] at hE
  refine G [15, 9, 0] ?_
  refine cX (fun h => ?_) fun h => ?_
  ·have h2 : nc.size ≠ 16 := by simp at h; omega
   rw [if_pos h2, if_pos (by decide)] at hE
   subst hE
   refine G [5, 9, 0] ?_
   exact yE
  have h2 : nc.size = 16 := by simp at h; omega
  clear h
  rw [if_neg (show ¬ nc.size ≠ 16 by simp [h2])] at hE
  by_cases h3 : hexE nc ≠ 0
  ·rw [if_pos h3, if_pos h3] at hE
   obtain ⟨g1, g2⟩ := zbw rfl h3
   rw [g1, g2] at hN
   subst hE
   generalize hexE nc = he at *
   refine G [6] ?_
   refine cV hN ?_
   refine G [11, 9, 0] ?_
   refine cX (fun h => ?_) fun h => ?_
   ·refine G [6, 9, 0] ?_
    exact yE
   ·exact absurd (by simpa using h) h3
  rw [if_neg h3] at hE
  replace h3 : hexE nc = 0 := Decidable.not_not.1 h3
  obtain ⟨g1, g2⟩ := za1 h3
  rw [g1, g2] at hN
  clear g1 g2
  refine G [6] ?_
  refine cV hN ?_
  refine G [9, 1, 12, 2, 4, 2, 6, 2, 4, 2, 1, 9, 0] ?_
  refine cX (fun h => ?_) fun h => ?_
  ·have h5 : mine < 1 ∨ 4294967295 < mine ∨ hb < 0 ∨ hs < hb ∨ 1099511627776 < hs := by simp at h; omega
   rw [if_pos h5, if_pos (by decide)] at hE
   subst hE
   refine G [5, 9, 0] ?_
   exact yE
  have h5 : ¬ (mine < 1 ∨ 4294967295 < mine ∨ hb < 0 ∨ hs < hb ∨ 1099511627776 < hs) := by simp at h; omega
  clear h
  rw [if_neg h5, if_neg (by simp)] at hE
  refine G [6] ?_
  refine cV hEn ?_
  refine G [16, 2, 1, 9, 0] ?_
  refine cX (fun h => ?_) fun h => ?_
  ·have h4 : ep ≠ ⟨#[]⟩ ∧ e1 ≠ 0 := by simpa using h
   rw [if_pos h4] at hE
   subst hE
   refine G [6, 9, 0] ?_
   exact yE
  have h4 : ¬ (ep ≠ ⟨#[]⟩ ∧ e1 ≠ 0) := by
   intro ⟨h5, h6⟩
   simp [h5, h6] at h
  clear h
  rw [if_neg h4] at hE
  refine G [9, 9, 0] ?_
  refine cX (fun h => ?_) fun h => ?_
  ·have h5 : 3 < q.length := by simp at h; omega
   rw [if_pos h5] at hE
   subst hE
   refine G [5, 9, 0] ?_
   exact yE
  have h5 : ¬ 3 < q.length := by simp at h; omega
  clear h
  rw [if_neg h5] at hE
  unfold pqE at hE
  obtain ⟨f, hF⟩ : ∃ f, (fun i => if 200 < (pqG q i).xs.length then 1 else 0 : Nat → Int) = f := ⟨_, rfl⟩
  rw [hF] at hE
  refine G [10] ?_
  refine zag (fun m st => ∃ i : Nat, m + i = q.length ∧ (∀ j, j < i → f j = 0) ∧ st = St.of [(122, .p (.sl q.length 3 (q.flatMap PQ.pv))), (123, .p (.v (.int .i64 q.length))), (124, .p (.v (.int .i64 i)))] []) q.length ?_ ?_
  ·refine ⟨_, zah id _ _ ?_ ?_ rfl, 0, by omega, by omega, rfl⟩
   ·(repeat (first | exact trivial | (refine ⟨⟨(by first | rfl | (simp; done) | (simp; omega)), rfl⟩, ?_⟩)))
   ·trivial
  rintro m st ⟨i, hi, hf, rfl⟩
  refine G [5] ?_
  refine cX (fun h => ?_) fun h => ?_
  ·have hlt : i < q.length := by simp at h; omega
   clear h
   obtain ⟨p, hp⟩ : ∃ p, q[i]? = some p := ⟨q[i], List.getElem?_eq_getElem hlt⟩
   have hch := zar (f := PQ.pv) (k := 3) (fun _ => rfl) hp
   have hle := zas (f := PQ.pv) (k := 3) (fun _ => rfl) hlt
   have hpx := hqx p (List.mem_of_getElem? hp)
   have hhit := @zcd f i q.length hf hlt
   have hfi : f i = if 200 < p.xs.length then 1 else 0 := by rw [← hF]; show (if 200 < (pqG q i).xs.length then (1 : Int) else 0) = _; rw [show pqG q i = p by unfold pqG; rw [List.getD_eq_getElem?_getD, hp]; rfl]
   obtain ⟨pa, pb, xs⟩ := p
   dsimp only at hpx hfi
   change _ = [PV.v (.int .u32 pa), .v (.int .u32 pb), .sl xs.length 1 (bs xs)] at hch
   have hC := pchk_s pa pb xs.length (bs xs) (by omega)
   generalize hL : q.flatMap PQ.pv = L at *
   generalize bs xs = X at *
   generalize xs.length = N at *
   refine G [6] ?_
   refine zaa (zaI U108 rfl zd4 (by rw [List.length_drop]; omega) (hch)) rfl rfl ?_
   refine jdA (zaX 14 zr108 rfl) ?_
   refine jdA (zaf (Y := .agg [.p (.v (.int .u32 pa)), .p (.v (.int .u32 pb)), .p (.sl N 1 X)]) zd4 rfl rfl (Nat.eq_of_beq_eq_true rfl)) ?_
   refine G [8, 9, 0] ?_
   refine cX (fun h => ?_) fun h => ?_
   ·have h6 : 200 < N := by simp at h; omega
    rw [if_pos h6] at hfi
    rw [hhit (by rw [hfi]; decide), hfi] at hE
    subst hE
    refine G [5, 9, 0] ?_
    exact yE
   ·have h6 : ¬ 200 < N := by simp at h; omega
    clear h
    refine G [5, 9, 0] ?_
    refine ⟨m - 1, by omega, _, zah id _ _ ?_ ?_ rfl, i + 1, by omega, fun j hj => ?_, rfl⟩
    ·(repeat (first | exact trivial | (refine ⟨⟨(by first | rfl | (simp; done) | (simp; omega)), rfl⟩, ?_⟩)))
    ·trivial
    ·by_cases ej : j = i
     ·rw [ej, hfi, if_neg h6]
     ·exact hf j (by omega)
  have hge : i = q.length := by simp at h; omega
  clear h
  subst hge
  rw [zcN hf] at hE
  subst hE
  refine G [6, 9, 0] ?_
  exact yE
end Go.Proofs.YtbjdjclkbjpebaaGreatDoor
