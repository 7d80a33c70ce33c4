/- A stage, typed, as data; stage.Check, the reference's StageFault. -/
import Derived.Test.YtlfjpippeeikdaaGreatDoorSBt2
set_option linter.all false
namespace Go.Proofs.YtlfjpippeeikdaaGreatDoor
open Tryz
open Go.RowKit Go.Sort
set_option maxHeartbeats 16000000
set_option maxRecDepth 100000
structure SG where
 lv : Bool
 rest : List SE
 c : CF
 at_ : ByteArray
 err : Int
def sgC (lv : Bool) (n : Nat) (R : List PV) (key : ByteArray) (port : Int) (m : Nat) (L : List PV) (at_ : ByteArray) (err : Int) : List AV :=
 [qf lv, .p (.sl n 5 R), qc key, qd port, .p (.sl m 5 L), qc at_, qd err]
def SG.cells (s : SG) : List AV := sgC s.lv s.rest.length (s.rest.flatMap SE.pv) s.c.key s.c.port s.c.ps.length (s.c.ps.flatMap PE.pv) s.at_ s.err
def SG.pv (s : SG) : List PV := [.v (.bool s.lv), .sl s.rest.length 5 (s.rest.flatMap SE.pv)] ++ s.c.pv ++ [qg s.at_, qh s.err]
structure SG.OK (s : SG) : Prop where
 rest : ∀ x ∈ s.rest, x.OK
 len : s.rest.length ≤ 1048576
 c : s.c.OK
 az : s.at_.size ≤ 1048576
 kz : s.c.key.size ≤ 1048576
theorem SG.of_ty {n : Nat} {ps : List PV} (h : Ty prog (n + 8) 30 ps) (hb : PV.bdL 1048576 ps) : ∃ s : SG, s.OK ∧ ps = s.pv := by
 obtain ⟨_, rfl, x0, _, rfl, t0, x1, _, rfl, t1, x2, _, rfl, t2, x3, _, rfl, t3, x4, _, rfl, t4, rfl⟩ := zbi (ts := [4, 27, 24, 9, 28]) qm h
 obtain ⟨a0, rfl⟩ := zgP U4 t0
 obtain ⟨l, okl, hl, rfl⟩ := SE.list_ty t1 (zbr hb x1 qz)
 have hb2 := zbr hb x2 qz
 have hb3 := zbr hb x3 qz
 obtain ⟨c, okc, rfl⟩ := CF.of_ty t2 hb2
 obtain ⟨a3, rfl, _⟩ := zbF U9 t3
 obtain ⟨a4, rfl, _⟩ := zbz underlying28 t4
 simp only [CF.pv, PV.bdL, PV.bd] at hb2 hb3
 exact ⟨⟨a0, l, c, a3, a4⟩, ⟨okl, hl, okc, hb3.1, hb2.1⟩, by simp [SG.pv]⟩
def seG (l : List SE) (i : Nat) : SE := l.getD i ⟨0, ⟨#[]⟩, 0, 0, 0⟩
theorem seG_at {l : List SE} {i : Nat} {p : SE} (h : l[i]? = some p) : seG l i = p := by unfold seG; rw [List.getD_eq_getElem?_getD, h]; rfl
def restE (l : List SE) : Int := fnz (fun i => seE (seG l i)) l.length
def sgE (s : SG) : Int :=
 if s.lv = false then (if 0 < s.rest.length ∨ s.at_ ≠ ⟨#[]⟩ ∨ s.err ≠ 0 ∨ s.c.key ≠ ⟨#[]⟩ ∨ s.c.port ≠ 0 ∨ 0 < s.c.ps.length then 14 else 0)
 else if cfE s.c ≠ 0 then cfE s.c else if 60 < s.rest.length then 1 else if restE s.rest ≠ 0 then restE s.rest
 else if (s.at_ ≠ ⟨#[]⟩ ∧ keyE s.at_ ≠ 0) ∨ s.err < 0 ∨ 14 < s.err then 4 else 0
theorem sgCheck_s (s : SG) (ok : s.OK) : Fn prog 35 [.agg s.cells] (qd (sgE s)) [] := by
 obtain ⟨lv, rest, c, at_, err⟩ := s
 obtain ⟨okr, hl, okc, haz, hkz⟩ := ok
 dsimp only at okr hl okc haz hkz
 obtain ⟨E, hE⟩ : ∃ E, sgE ⟨lv, rest, c, at_, err⟩ = E := ⟨_, rfl⟩
 rw [hE]
 unfold sgE at hE
 dsimp only at hE
 have hCf := zbT c okc
 have hK := zbW at_
 have hrE : restE rest = fnz (fun i => seE (seG rest i)) rest.length := rfl
 have hpl := okc.len
 generalize cfE c = ce at *
 generalize keyE at_ = k1 at *
 obtain ⟨key, port, ps⟩ := c
 dsimp only at hE hpl hkz
 change Fn prog _ [.agg [qc key, qd port, .p (.sl ps.length 5 (ps.flatMap PE.pv))]] _ _ at hCf
 show Fn prog _ [.agg (sgC lv rest.length (rest.flatMap SE.pv) key port ps.length (ps.flatMap PE.pv) at_ err)] _ _
 clear okc
 generalize ps.flatMap PE.pv = L at *
 generalize ps.length = M at *
 refine fnI fun w0 A => ?_
 refine G [12, 9, 0] ?_
 refine cX ?_ ?_ <;> intro h
 ·have h0 : lv = false := by simpa using h
  clear h
  rw [if_pos h0] at hE
  refine G [11, 2, 4, 2, 5, 2, 5, 2, 4] ?_
  refine mb2 _ rfl rfl (fun hb => (zd7 U22)) (fun _ => trivial) ?_
  refine G [1, 2, 1, 9, 0] ?_
  refine cX ?_ ?_ <;> intro h
  ·have h1 : 0 < rest.length ∨ at_ ≠ ⟨#[]⟩ ∨ err ≠ 0 ∨ key ≠ ⟨#[]⟩ ∨ port ≠ 0 ∨ 0 < M := by
    simp at h
    simp only [or_assoc] at h
    exact h
   exact jbK
  ·have h1 : ¬ (0 < rest.length ∨ at_ ≠ ⟨#[]⟩ ∨ err ≠ 0 ∨ key ≠ ⟨#[]⟩ ∨ port ≠ 0 ∨ 0 < M) := by
    simp at h
    simp only [not_or]
    simp only [and_assoc] at h
    obtain ⟨q1, q2, q3, q4, q5, q6⟩ := h
    refine ⟨by simp [q1], by simpa using q2, by simpa using q3, by simpa using q4, by simpa using q5, qk⟩
   rw [if_neg h1] at hE
   subst hE
   refine jcV ?_
   exact yE
 have h0 : ¬ lv = false := by simpa using h
 clear h
 rw [if_neg h0] at hE
 refine G [6] ?_
 refine cK hCf ?_
 refine jcS ?_
 refine cX ?_ ?_ <;> intro h
 ·have h1 : ce ≠ 0 := by simpa using h
  exact jaX
 have h1 : ce = 0 := by simpa using h
 clear h
 rw [if_neg (by simp [h1])] at hE
 refine G [9, 9, 0] ?_
 refine cX ?_ ?_ <;> intro h
 ·exact jcw
 have h2 : ¬ 60 < rest.length := by simp at h; omega
 clear h
 rw [if_neg h2] at hE
 refine G [10] ?_
 refine zae (fun m st => ∃ i : Nat, m + i = rest.length ∧ (∀ j, j < i → seE (seG rest j) = 0) ∧ st = St.of [(1, .ref 1 0), (54, .p (.sl rest.length 5 (rest.flatMap SE.pv))), (55, qd rest.length), (56, qd i)] [(1, .box 30 (sgC lv rest.length (rest.flatMap SE.pv) key port M L at_ err))]) rest.length ?_ ?_
 ·exact jaw
 rintro m st ⟨i, hi, hf, rfl⟩
 refine G [5] ?_
 refine cX ?_ ?_ <;> intro h
 ·have hlt : i < rest.length := by simp at h; omega
  clear h
  obtain ⟨x, hx⟩ : ∃ x, rest[i]? = some x := ⟨rest[i], List.getElem?_eq_getElem hlt⟩
  have hch := zaj (f := SE.pv) (k := 5) (fun _ => rfl) hx
  have hle := zak (f := SE.pv) (k := 5) (fun _ => rfl) hlt
  have hC := ze5 x (okr x (qaE hx))
  exact jaA
 have hge : i = rest.length := by simp at h; omega
 clear h
 subst hge
 rw [hrE, zcD hf, if_neg (by simp)] at hE
 clear hf hrE
 refine G [10] ?_
 refine mb2 _ rfl rfl (fun _ => zbl func66 rfl rfl (hK) qr rfl) (fun _ => trivial) ?_
 exact jaL
def rootRes : Option (TR × List ND) → TR
 | none => .nil
 | some (t, _) => t
theorem tree_s (l : List ND) (hok : ∀ x ∈ l, x.OK) (hz : l.length ≤ 4611686018427387904) : Fn prog 77 [.p (ndsV l)] (.p (trP (rootRes (zdg l.length l)))) [] := by
 have hg := grow_s l.length l (Nat.le_refl _) hok hz
 cases hq : zdg l.length l with
 | none =>
  rw [hq] at hg
  replace hg : Fn prog 108 [.p (ndsV l)] (.tup [.p (.v (.pointer none)), qj, qf false]) [] := hg
  refine fnI fun w0 A => ?_
  refine G [7] ?_
  refine cK hg ?_
  refine G [14, 9, 0] ?_
  exact yE
 | some r =>
  obtain ⟨t, rest⟩ := r
  rw [hq] at hg
  replace hg : Fn prog 108 [.p (ndsV l)] (.tup [.p (trP t), .p (ndsV rest), qf true]) [] := hg
  refine fnI fun w0 A => ?_
  refine G [7] ?_
  refine cK hg ?_
  refine G [14, 9, 0] ?_
  exact yE
def zes : List ND → Int
 | [] => 0
 | x :: l => if x.fault ≠ 0 then x.fault else zes l
def endsB : Option (TR × List ND) → Bool
 | some (_, []) => true
 | _ => false
def zgw (l : List ND) : Int := if zes l ≠ 0 then zes l else if l = [] then 0 else if endsB (zdg l.length l) = true then 0 else 14
theorem faultL_at : ∀ {l : List ND} {i : Nat} {x : ND}, l[i]? = some x → (∀ j, j < i → ∀ y, l[j]? = some y → y.fault = 0) → x.fault ≠ 0 → zes l = x.fault
 | [], i, x, h, _, _ => by simp at h
 | y :: l, 0, x, h, _, hx => by simp at h; subst h; rw [zes, if_pos hx]
 | y :: l, i + 1, x, h, hj, hx => by
  have h0 := hj 0 qk y qz
  rw [zes, if_neg (by simp [h0])]
  exact faultL_at (i := i) qG (fun j hj' z hz => hj (j + 1) qk z (by simpa using hz)) hx
theorem ze3 : ∀ {l : List ND}, zes l = 0 ↔ ∀ x ∈ l, x.fault = 0
 | [] => by simp [zes]
 | y :: l => by
  rw [zes]
  by_cases h : y.fault = 0
  ·rw [if_neg (by simp [h]), ze3]; simp [h]
  ·rw [if_pos h]; simp [h]
theorem nds_at (l : List ND) (i : Nat) (x : ND) (h : l[i]? = some x) : ((nds l).drop (i * 4)).take 4 = x.pv := by
 rw [zir]
 obtain ⟨hi, rfl⟩ := qaG.1 h
 rw [qbh hi, zdk]; rfl
theorem tcheck_s (l : List ND) (hok : ∀ x ∈ l, x.OK) (hz : l.length ≤ 4611686018427387904) : Fn prog 74 [.p (ndsV l)] (qd (zgw l)) [] := by
 refine fnI fun w0 A => ?_
 refine G [12] ?_
 refine zae (fun m st => ∃ i : Nat, m + i = l.length ∧ (∀ j, j < i → ∀ y, l[j]? = some y → y.fault = 0) ∧ st = St.of [(0, .p (ndsV l)), (9, .p (ndsV l)), (10, qd l.length), (11, qd i)] []) l.length ?_ ?_
 ·refine ⟨_, re_of0 _ ?_, 0, qk, qk, rfl⟩
  ·exact ⟨⟨rfl, rfl⟩, ⟨rfl, rfl⟩, ⟨rfl, rfl⟩, ⟨rfl, rfl⟩, trivial⟩
 rintro m st ⟨i, hi, hj, rfl⟩
 refine G [5] ?_
 refine cX ?_ ?_ <;> intro h
 ·have hlt : i < l.length := by simp at h; omega
  clear h
  obtain ⟨x, hx⟩ : ∃ x, l[i]? = some x := ⟨l[i], List.getElem?_eq_getElem hlt⟩
  have hxo := hok x (qaE hx)
  have hld := nds_at l i x hx
  have hln := zem l
  have hC := zcK x.a x.n hxo.a0 hxo.a1
  have hxf : zap x.a x.n = x.fault := rfl
  rw [hxf] at hC
  obtain ⟨F, hF⟩ : ∃ F, F = x.fault := ⟨_, rfl⟩
  rw [← hF] at hC
  refine G [6] ?_
  refine zaa (zam U84 rfl sz84 (by rw [qaP, hln]; first | omega | (simp only [qaS]; omega)) ((show _ = x.pv from hld))) rfl rfl ?_
  refine G [7] ?_
  refine cV hC ?_
  refine jcS ?_
  refine cX ?_ ?_ <;> intro h
  ·have hne : x.fault ≠ 0 := by rw [← hF]; simpa using h
   have hE : zgw l = F := by
    unfold zgw
    have := faultL_at hx hj hne
    rw [this, if_pos hne, hF]
   rw [hE]
   refine jcV ?_
   exact yE
  ·have he : x.fault = 0 := by rw [← hF]; simpa using h
   refine jcQ ?_
   refine ⟨m - 1, qk, _, re_of0 _ ?_, i + 1, qk, ?_, rfl⟩
   ·exact ⟨⟨rfl, rfl⟩, ⟨rfl, rfl⟩, ⟨rfl, rfl⟩, ⟨rfl, rfl⟩, trivial⟩
   ·intro j hj' y hy
    by_cases hji : j = i
    ·subst hji; rw [hx] at hy; cases hy; exact he
    ·exact hj j qk y hy
 have hge : i = l.length := by simp at h; omega
 clear h
 subst hge
 have h0 : zes l = 0 := ze3.2 fun x hx => by
  obtain ⟨j, hj1, rfl⟩ := qbs.1 hx
  exact hj j hj1 _ (List.getElem?_eq_getElem hj1)
 unfold zgw
 rw [if_neg (by simp [h0])]
 refine jdh ?_
 refine cX ?_ ?_ <;> intro h
 ·have hl : l = [] := qaQ qG
  rw [if_pos hl]
  refine jcQ ?_
  exact yE
 have hl : l ≠ [] := by rintro rfl; simp at h
 rw [if_neg hl]
 have hg := grow_s l.length l (Nat.le_refl _) hok hz
 cases hq : zdg l.length l with
 | none =>
  rw [hq] at hg
  replace hg : Fn prog 108 [.p (ndsV l)] (.tup [.p (.v (.pointer none)), qj, qf false]) [] := hg
  rw [show endsB none = false from rfl, if_neg (by simp)]
  refine G [5] ?_
  refine cK hg ?_
  refine G [18, 9, 0] ?_
  refine cX ?_ ?_ <;> intro h
  ·refine G [5, 9, 0] ?_
   exact yE
  ·cases h
 | some r =>
  obtain ⟨t, rest⟩ := r
  rw [hq] at hg
  replace hg : Fn prog 108 [.p (ndsV l)] (.tup [.p (trP t), .p (ndsV rest), qf true]) [] := hg
  refine G [5] ?_
  refine cK hg ?_
  refine G [18, 9, 0] ?_
  refine cX ?_ ?_ <;> intro h
  ·have : endsB (some (t, rest)) = false := by
    cases rest with
    | nil => simp at h
    | cons => rfl
   rw [this, if_neg (by simp)]
   refine G [5, 9, 0] ?_
   exact yE
  ·have : endsB (some (t, rest)) = true := by
    cases rest with
    | nil => rfl
    | cons => simp at h
   rw [this, if_pos rfl]
   refine G [6, 9, 0] ?_
   exact yE
theorem list_s : ∀ (t : TR), t.list.length * 40 ≤ 140737488355328 → Fn prog 78 [.p (trP t)] (.row 0) [(0, .row 84 4 t.list.length (nds t.list))]
 | .nil, hz => by
  show Fn prog 78 [.p (.v (.pointer none))] (.row 0) [(0, .row 84 4 0 [])]
  refine fnI fun w0 A => ?_
  refine G [8] ?_
  refine jdY (a_peqNN U121) ?_
  refine zag (zaE (cX (fun h => ?_) fun h => ?_))
  ·refine G [4, 9, 0] ?_
   refine zaH (zbY 2 100 84 4 rfl rfl) ?_
   refine zaB (zbs (yT (fun _ => 100) ?_ ?_))
   ·exact rfl
   ·exact ⟨⟨rfl, rfl⟩, trivial⟩
  ·cases h
 | .nd p o l r, hz => by
  rw [TR.list_nd] at hz ⊢
  simp only [qaO, qaC] at hz
  have hl := list_s l qk
  have hr := list_s r qk
  show Fn prog 78 [.p (.pt [qi (zau p), qh p.length, qg o, trP l, trP r])] (.row 0) _
  rw [zdk, zg7]
  simp only [qaO, qaC]
  generalize nds l.list = cl at *
  generalize nds r.list = cr at *
  generalize l.list.length = nl at *
  generalize r.list.length = nr at *
  have hk1 : 1 + nl = nl + 1 := qk
  have hk2 : nl + 1 + nr = nl + nr + 1 := qk
  have hst : setR (([qi (zau p), qh p.length, qg o, qh 0] ++ cl) ++ cr) 3 [qh ((nl + nr + 1 : Nat) : Int)] = qi (zau p) :: qh p.length :: qg o :: qh ((nl + nr + 1 : Nat) : Int) :: (cl ++ cr) := by simp [setR]
  refine fnI fun w0 A => ?_
  refine G [8] ?_
  refine jdY (a_peqPN U121) ?_
  refine zag (zaE (cX (fun h => ?_) fun h => ?_))
  ·cases h
  refine G [4] ?_
  refine jdY zbp ?_
  refine jdY (zah zck rfl) ?_
  refine zaa (zam U82 rfl sz82 qB (rfl)) rfl rfl ?_
  refine mP rfl rfl ?_
  refine jdY zbp ?_
  refine jdY (zah fi164_1 rfl) ?_
  refine zaa (zaN U9 rfl qq) rfl rfl ?_
  refine jdY (zcs pl84 zr84 rfl rfl) ?_
  refine jdZ (zai 15 U25 sz84 zc84 (qaA rfl) (qaA rfl) rfl rfl rfl rfl (qaA rfl)) ?_
  refine G [3] ?_
  refine zfE 8 qm ?_
  refine G [2] ?_
  refine jdY zbp ?_
  refine jdY (zah zda rfl) ?_
  refine zaa (zcR U162 zdf qk qk rfl) rfl rfl ?_
  refine zaa (zaN U121 rfl qq) rfl rfl ?_
  refine cK hl ?_
  refine zab (zaq 23 U25 eo84 (zaU) qy qk hk1 rfl) rfl rfl ⟨rfl, rfl, rfl, trivial⟩ ?_
  refine mP rfl rfl ?_
  refine jdY zbp ?_
  refine jdY (zah zda rfl) ?_
  refine zaa (zcR U162 zdf qk qk rfl) rfl rfl ?_
  refine zaa (zaN U121 rfl qq) rfl rfl ?_
  refine cK hr ?_
  refine zab (zaq 30 U25 eo84 (zaU) qy qk hk2 rfl) rfl rfl ⟨rfl, rfl, rfl, trivial⟩ ?_
  refine G [9] ?_
  refine zab (zbX (Y := .p _) sz3 rfl rfl (by first | rfl | omega) qB hst) rfl rfl ⟨rfl, trivial⟩ ?_
  refine G [7, 9, 0] ?_
  refine yT (fun _ => 30) ?_ ?_
  ·exact rfl
  ·exact ⟨⟨rfl, rfl⟩, trivial⟩
theorem cloneN_s (n : Nat) (cs : List PV) (hx : cs.length = n * 4) (hn : n * 40 ≤ 140737488355328) : Fn prog 44 [.p (.sl n 4 cs)] (.row 0) [(0, .row 84 4 n cs)] := by
 refine fnI fun w0 A => ?_
 refine G [4] ?_
 by_cases h0 : n = 0
 ·subst h0
  obtain rfl : cs = [] := qaQ qk
  refine G [4] ?_
  refine jdY (a_seqX U25) ?_
  refine zag (zaE (zfF rfl ?_ ?_))
  ·refine G [4, 9, 0] ?_
   refine zaH (zbY 2 100 84 4 rfl rfl) ?_
   refine zaB (zbs ?_)
   exact jbc
  ·refine G [3] ?_
   refine jdZ (za6 5 U25 sz84) ?_
   refine mP rfl rfl ?_
   refine zab (zaq 7 U25 eo84 (zdh) qy qk rfl rfl) rfl rfl ⟨rfl, rfl, trivial⟩ ?_
   exact jaZ
 ·refine G [4] ?_
  refine zaa (a_seqS U25 qk) rfl rfl ?_
  refine zag (zaE (cX (fun h => ?_) fun h => ?_))
  ·cases h
  ·refine G [3] ?_
   refine jdZ (za6 5 U25 sz84) ?_
   refine mP rfl rfl ?_
   refine zab (zaq 7 U25 eo84 (zdh) qy qk (show _ = n by omega) rfl) rfl rfl ⟨rfl, rfl, trivial⟩ ?_
   refine jdc ?_
   refine yT (fun _ => 7) ?_ ?_
   ·exact rfl
   ·exact ⟨⟨rfl, rfl⟩, trivial⟩
def keyA (p : Key) : List AV := netA (zau p) p.length
theorem keyEq {p q : Key} (hp : p.length ≤ 32) : eqL [.int .u32 (zau p), .int .i64 p.length] [.int .u32 (zau q), .int .i64 q.length] = decide (p = q) := by
 rw [qbm, zaP, decide_eq_true_eq]
 constructor
 ·intro h
  simp only [List.cons.injEq, Value.int.injEq, true_and, and_true] at h
  exact zhz hp qk h.1
 ·intro h; rw [h]
theorem kJoin_s (p q : Key) (hp : p.length ≤ 32) (hq : q.length ≤ 32) : Fn prog 112 [.agg (keyA p), .agg (keyA q)] (.tup [.agg (keyA (lcpL p q)), qd 0]) [] := by
 have h := nJoin_s (zau p) p.length (zau q) q.length (zbL p hp) (zbL q hq) (zbk p hp).1 (zbk p hp).2 (zbk q hq).1 (zbk q hq).2
 exact jck
theorem put_s : ∀ (t : TR) (n : Key) (o : ByteArray), t.short → n.length ≤ 32 → Fn prog 76 [.p (trP t), .agg (keyA n), qc o] (.p (trP (t.put n o))) []
 | .nil, n, o, hs, hn => by
  rw [TR.put]
  show Fn prog 76 [.p (.v (.pointer none)), .agg (netA (zau n) n.length), qc o] _ []
  refine fnI fun w0 A => ?_
  refine G [18] ?_
  refine jdY (a_peqNN U121) ?_
  refine G [2, 9, 0] ?_
  refine cX ?_ ?_ <;> intro h
  ·refine zaZ (zeg (cs := [qi (zau n), qh n.length, qg o, .v (.pointer none), .v (.pointer none)]) 15 rfl rfl) ?_
   refine G [6, 9, 0] ?_
   exact yE
  ·cases h
 | .nd p q l r, n, o, hs, hn => by
  obtain ⟨hp, hsl, hsr⟩ := hs
  have hH := ziw p n hp hn
  have hH2 := ziw n p hn hp
  have hEq := keyEq (q := n) hp
  rw [TR.put]
  show Fn prog 76 [.p (.pt [qi (zau p), qh p.length, qg q, trP l, trP r]), .agg (netA (zau n) n.length), qc o] _ []
  refine fnI fun w0 A => ?_
  refine G [18] ?_
  refine jdY (a_peqPN U121) ?_
  refine G [2, 9, 0] ?_
  refine cX ?_ ?_ <;> intro h
  ·cases h
  refine G [3] ?_
  refine jdY zbp ?_
  refine jdY (zah zck rfl) ?_
  refine zaa (zam U82 rfl sz82 qB (rfl)) rfl rfl ?_
  refine lN U82 rfl sz82 rfl rfl ⟨rfl, trivial⟩ ?_
  refine zaa (ze6 U82 rfl rfl qm qm qm) rfl rfl ?_
  refine G [2, 9, 0] ?_
  refine cX ?_ ?_ <;> intro h
  ·have he : p = n := by
    have h' := h
    rw [hEq] at h'
    simpa using h'
   rw [if_pos he]
   refine G [5] ?_
   refine jdY zbp ?_
   refine jdY (zah zda rfl) ?_
   refine zaa (zam U162 rfl sz162 qB (rfl)) rfl rfl ?_
   refine G [4, 9, 0] ?_
   refine zaZ (zeg (cs := [qi (zau n), qh n.length, qg o, trP l, trP r]) 34 rfl rfl) ?_
   refine zaB (zb1 (zbs ?_))
   exact yE
  have hne : p ≠ n := by
   have h' := h
   rw [hEq] at h'
   simpa using h'
  clear h
  rw [if_neg hne]
  refine G [3] ?_
  refine jdY zbp ?_
  refine jdY (zah zck rfl) ?_
  refine zaa (zam U82 rfl sz82 qB (rfl)) rfl rfl ?_
  refine lN U82 rfl sz82 rfl rfl ⟨rfl, trivial⟩ ?_
  refine cV hH ?_
  refine G [2, 9, 0] ?_
  refine cX ?_ ?_ <;> intro h
  ·have hpn : p <+: n := by simpa using h
   clear h
   rw [if_pos hpn]
   have hx := zcv hpn (fun e => hne e.symm)
   have hlt : p.length < n.length := by have := hx.length_le; simp at this; omega
   have hS := side_s p n hlt hn
   cases hb : zbH n p.length with
   | true =>
    have hP := put_s r n o hsr hn
    rw [show bitN n p.length = 1 by unfold bitN; rw [hb]; rfl] at hS
    rw [if_pos rfl]
    refine G [3] ?_
    refine jdY zbp ?_
    refine zaa (zam underlying164 rfl sz164 qB (rfl)) rfl rfl ?_
    refine G [6] ?_
    refine jdY zbp ?_
    refine jdY (zah zck rfl) ?_
    refine zaa (zam U82 rfl sz82 qB (rfl)) rfl rfl ?_
    refine lN U82 rfl sz82 rfl rfl ⟨rfl, trivial⟩ ?_
    refine cV hS ?_
    refine G [7] ?_
    refine jdY zbp ?_
    refine jdY (zah zda rfl) ?_
    refine zaa (zcR U162 zdf qk qk rfl) rfl rfl ?_
    refine zaa (zaN U121 rfl qq) rfl rfl ?_
    refine G [2] ?_
    refine cK hP ?_
    refine fA zda rfl rfl ?_
    refine zaa (zaR U162 zdf qk qk qv) rfl rfl ?_
    refine G [6, 9, 0] ?_
    refine zaZ (zeg (cs := [qi (zau p), qh p.length, qg q, trP l, trP (r.put n o)]) 8 rfl rfl) ?_
    refine zaB (zb1 (zbs ?_))
    exact yE
   | false =>
    have hP := put_s l n o hsl hn
    rw [show bitN n p.length = 0 by unfold bitN; rw [hb]; rfl] at hS
    rw [if_neg (by simp)]
    refine G [3] ?_
    refine jdY zbp ?_
    refine zaa (zam underlying164 rfl sz164 qB (rfl)) rfl rfl ?_
    refine G [6] ?_
    refine jdY zbp ?_
    refine jdY (zah zck rfl) ?_
    refine zaa (zam U82 rfl sz82 qB (rfl)) rfl rfl ?_
    refine lN U82 rfl sz82 rfl rfl ⟨rfl, trivial⟩ ?_
    refine cV hS ?_
    refine G [7] ?_
    refine jdY zbp ?_
    refine jdY (zah zda rfl) ?_
    refine zaa (zcR U162 zdf qk qk rfl) rfl rfl ?_
    refine zaa (zaN U121 rfl qq) rfl rfl ?_
    refine G [2] ?_
    refine cK hP ?_
    refine fA zda rfl rfl ?_
    refine zaa (zaR U162 zdf qk qk qv) rfl rfl ?_
    refine G [6, 9, 0] ?_
    refine zaZ (zeg (cs := [qi (zau p), qh p.length, qg q, trP (l.put n o), trP r]) 8 rfl rfl) ?_
    refine zaB (zb1 (zbs ?_))
    exact yE
  have hpn : ¬ p <+: n := by simpa using h
  clear h
  rw [if_neg hpn]
  refine G [4] ?_
  refine jdY zbp ?_
  refine jdY (zah zck rfl) ?_
  refine zaa (zam U82 rfl sz82 qB (rfl)) rfl rfl ?_
  refine cV hH2 ?_
  refine G [2, 9, 0] ?_
  refine cX ?_ ?_ <;> intro h
  ·have hnp : n <+: p := by simpa using h
   clear h
   rw [if_pos hnp]
   have hx := zcv hnp (fun e => hne e)
   have hlt : n.length < p.length := by have := hx.length_le; simp at this; omega
   have hS := side_s n p hlt hp
   cases hb : zbH p n.length with
   | true =>
    rw [show bitN p n.length = 1 by unfold bitN; rw [hb]; rfl] at hS
    rw [if_pos rfl]
    refine G [5] ?_
    refine jdY zbp ?_
    refine jdY (zah zck rfl) ?_
    refine zaa (zam U82 rfl sz82 qB (rfl)) rfl rfl ?_
    refine cV hS ?_
    refine G [3] ?_
    refine zaa (zaR U162 zdf qk qk qv) rfl rfl ?_
    refine G [7, 9, 0] ?_
    refine zaZ (zeg (cs := [qi (zau n), qh n.length, qg o, .v (.pointer none), .pt [qi (zau p), qh p.length, qg q, trP l, trP r]]) 15 rfl rfl) ?_
    refine zaB (zb1 (zbs ?_))
    exact yE
   | false =>
    rw [show bitN p n.length = 0 by unfold bitN; rw [hb]; rfl] at hS
    rw [if_neg (by simp)]
    refine G [5] ?_
    refine jdY zbp ?_
    refine jdY (zah zck rfl) ?_
    refine zaa (zam U82 rfl sz82 qB (rfl)) rfl rfl ?_
    refine cV hS ?_
    refine G [3] ?_
    refine zaa (zaR U162 zdf qk qk qv) rfl rfl ?_
    refine G [7, 9, 0] ?_
    refine zaZ (zeg (cs := [qi (zau n), qh n.length, qg o, .pt [qi (zau p), qh p.length, qg q, trP l, trP r], .v (.pointer none)]) 15 rfl rfl) ?_
    refine zaB (zb1 (zbs ?_))
    exact yE
  have hnp : ¬ n <+: p := by simpa using h
  clear h
  rw [if_neg hnp]
  have hJ := kJoin_s p n hp hn
  have f2 := (fork_bits hpn hnp).2.1
  have hlt : (lcpL p n).length < n.length := by have := f2.length_le; simp at this; omega
  have hS := side_s (lcpL p n) n hlt hn
  generalize hj : lcpL p n = j at *
  cases hb : zbH n j.length with
  | true =>
   rw [show bitN n j.length = 1 by unfold bitN; rw [hb]; rfl] at hS
   rw [if_pos rfl]
   refine G [11] ?_
   refine jdY zbp ?_
   refine jdY (zah zck rfl) ?_
   refine zaa (zam U82 rfl sz82 qB (rfl)) rfl rfl ?_
   refine lN U82 rfl sz82 rfl rfl ⟨rfl, trivial⟩ ?_
   refine cV hJ ?_
   refine G [14] ?_
   refine cV hS ?_
   refine G [13] ?_
   refine zaa (zaR U162 zdf qk qk qv) rfl rfl ?_
   refine zab (zaS (Y := .ref _ _) zdf rfl qD qo qF) rfl rfl ⟨rfl, trivial⟩ ?_
   refine G [2] ?_
   refine zaa (zaR U162 zdf qk qk qv) rfl rfl ?_
   refine G [2, 9, 0] ?_
   refine zaZ (zeg (cs := [qi (zau n), qh n.length, qg o, .v (.pointer none), .v (.pointer none)]) 15 rfl rfl) ?_
   refine zaZ (zeg (cs := [qi (zau j), qh j.length, qg ⟨#[]⟩, .pt [qi (zau p), qh p.length, qg q, trP l, trP r], .pt [qi (zau n), qh n.length, qg o, .v (.pointer none), .v (.pointer none)]]) 83 rfl rfl) ?_
   refine G [6, 9, 0] ?_
   exact yE
  | false =>
   rw [show bitN n j.length = 0 by unfold bitN; rw [hb]; rfl] at hS
   rw [if_neg (by simp)]
   refine G [11] ?_
   refine jdY zbp ?_
   refine jdY (zah zck rfl) ?_
   refine zaa (zam U82 rfl sz82 qB (rfl)) rfl rfl ?_
   refine lN U82 rfl sz82 rfl rfl ⟨rfl, trivial⟩ ?_
   refine cV hJ ?_
   refine G [14] ?_
   refine cV hS ?_
   refine G [13] ?_
   refine zaa (zaR U162 zdf qk qk qv) rfl rfl ?_
   refine zab (zaS (Y := .ref _ _) zdf rfl qD qo qF) rfl rfl ⟨rfl, trivial⟩ ?_
   refine G [2] ?_
   refine zaa (zaR U162 zdf qk qk qv) rfl rfl ?_
   refine G [2, 9, 0] ?_
   refine zaZ (zeg (cs := [qi (zau n), qh n.length, qg o, .v (.pointer none), .v (.pointer none)]) 15 rfl rfl) ?_
   refine zaZ (zeg (cs := [qi (zau j), qh j.length, qg ⟨#[]⟩, .pt [qi (zau n), qh n.length, qg o, .v (.pointer none), .v (.pointer none)], .pt [qi (zau p), qh p.length, qg q, trP l, trP r]]) 83 rfl rfl) ?_
   refine G [6, 9, 0] ?_
   exact yE
def zcX (l : List ND) : TR := rootRes (zdg l.length l)
theorem trieE_iff {l : List ND} (hok : ∀ x ∈ l, x.OK) : zgw l = 0 ↔ isTrie l (zcX l) := by
 unfold zgw
 constructor
 ·intro h
  split at h
  ·rename_i h'; exact absurd h h'
  ·split at h
   ·rename_i h1 h2; subst h2; exact ⟨trivial, trivial, rfl⟩
   ·split at h
    ·rename_i h1 h2 h3
     unfold zcX
     cases hq : zdg l.length l with
     | none => rw [hq] at h3; cases h3
     | some r =>
      obtain ⟨t, rest⟩ := r
      rw [hq] at h3
      obtain ⟨⟨hv, hs, _⟩, hl⟩ := zdX hok hq
      cases rest with
      | cons => cases h3
      | nil => exact ⟨hv, hs, by rw [qaV] at hl; exact hl⟩
    ·exact absurd h qw
 ·rintro ⟨hv, hs, hl⟩
  have h0 : zes l = 0 := ze3.2 fun x hx => TR.list_fault hs x (by rw [← hl]; exact hx)
  rw [if_neg (by simp [h0])]
  by_cases hne : l = []
  ·rw [if_pos hne]
  ·rw [if_neg hne]
   obtain ⟨t, ht⟩ := (isTrie_grow hok hne).1 ⟨_, hv, hs, hl⟩
   rw [ht]; rfl
theorem trieE_list {t : TR} (hok : ∀ x ∈ t.list, x.OK) (hv : t.valid) (hs : t.short) : zgw t.list = 0 ∧ zcX t.list = t := by
 have h2 : zcX t.list = t := by
  unfold zcX
  by_cases hn : t = .nil
  ·subst hn; rfl
  ·have := zeD (t := t) (n := t.list.length) (rest := []) ⟨hv, hs, hn⟩ (Nat.le_refl _)
   rw [qaV] at this
   rw [this]; rfl
 exact ⟨(trieE_iff hok).2 (by rw [h2]; exact ⟨hv, hs, rfl⟩), h2⟩
theorem TR.put_len : ∀ (t : TR) (n : Key) (o : Own), (t.put n o).list.length ≤ t.list.length + 2
 | .nil, n, o => by simp [TR.put, TR.list_nd, TR.list_nil]
 | .nd p q l r, n, o => by
  have h1 := TR.put_len l n o
  have h2 := TR.put_len r n o
  rw [TR.put]
  split
  ·simp [TR.list_nd]
  ·split
   ·split
    ·simp only [TR.list_nd, qaO, qaC] at *; omega
    ·simp only [TR.list_nd, qaO, qaC] at *; omega
   ·split
    ·split <;> simp [TR.list_nd, TR.list_nil]
    ·split <;> (simp only [TR.list_nd, TR.list_nil, qaO, qaC, qbV]; omega)
def nRes (e : Int) : AV := if e = 0 then .tup [.row 0, qd 0] else .tup [qj, qd e]
def nNew (e : Int) (l : List ND) : List (Nat × AObj) := if e = 0 then [(0, .row 84 4 l.length (nds l))] else []
theorem zeB {e : Int} (he : e ≠ 0) (l : List ND) : nRes e = .tup [qj, qd e] ∧ nNew e l = [] := by unfold nRes nNew; rw [if_neg he, if_neg he]; exact ⟨rfl, rfl⟩
theorem zg8 (l : List ND) : nRes 0 = .tup [.row 0, qd 0] ∧ nNew 0 l = [(0, .row 84 4 l.length (nds l))] := by unfold nRes nNew; rw [if_pos rfl, if_pos rfl]; exact ⟨rfl, rfl⟩
theorem zen (l : List ND) : (nds l).all PV.isV = true := by
 induction l with
 | nil => rfl
 | cons x l ih => rw [zdk]; simp [PV.isV, ih]
def putE (l : List ND) (n : ND) : Int := if zgw l ≠ 0 then zgw l else if n.fault ≠ 0 then n.fault else if n.o = noOwn then 3 else 0
def putL (l : List ND) (n : ND) : List ND := ((zcX l).put n.key n.o).list
theorem Put_s (l : List ND) (hok : ∀ x ∈ l, x.OK) (hz : l.length * 40 ≤ 140737488351232) (n : ND) (hn : n.OK) : Fn prog 41 [.p (ndsV l), .agg (netA n.a n.n), qc n.o] (nRes (putE l n)) (nNew (putE l n) (putL l n)) := by
 have hC := tcheck_s l hok qk
 have hT := tree_s l hok qk
 have hTi := trieE_iff hok
 have hN := zcK n.a n.n hn.a0 hn.a1
 have hK := @ND.keyed n hn.a0 hn.a1
 have e0 : zap n.a n.n = n.fault := rfl
 rw [e0] at hN
 unfold putE
 by_cases h1 : zgw l ≠ 0
 ·rw [if_pos h1]
  obtain ⟨e1, e2⟩ := zeB h1 (putL l n)
  rw [e1, e2]
  generalize zgw l = e at *
  refine fnI fun w0 A => ?_
  refine G [10] ?_
  refine cV hC ?_
  refine jcS ?_
  refine cX ?_ ?_ <;> intro h
  ·refine jcS ?_
   exact yE
  ·exact absurd qG h1
 rw [if_neg h1]
 replace h1 : zgw l = 0 := qaH.1 h1
 rw [h1] at hC
 by_cases h2 : n.fault ≠ 0
 ·rw [if_pos h2]
  obtain ⟨e1, e2⟩ := zeB h2 (putL l n)
  rw [e1, e2]
  generalize n.fault = e at *
  refine fnI fun w0 A => ?_
  refine G [10] ?_
  refine cV hC ?_
  refine G [5, 1, 1, 9, 0] ?_
  refine cX ?_ ?_ <;> intro h
  ·cases h
  refine G [5] ?_
  refine cV hN ?_
  refine jcS ?_
  refine cX ?_ ?_ <;> intro h
  ·refine jcS ?_
   exact yE
  ·exact absurd qG h2
 rw [if_neg h2]
 replace h2 : n.fault = 0 := qaH.1 h2
 rw [h2] at hN
 by_cases h3 : n.o = noOwn
 ·rw [if_pos h3]
  obtain ⟨e1, e2⟩ := zeB (show (3 : Int) ≠ 0 by decide) (putL l n)
  rw [e1, e2, h3]
  refine fnI fun w0 A => ?_
  refine G [10] ?_
  refine cV hC ?_
  refine G [5, 1, 1, 9, 0] ?_
  refine cX ?_ ?_ <;> intro h
  ·cases h
  refine G [5] ?_
  refine cV hN ?_
  refine G [5, 1, 1, 9, 0] ?_
  refine cX ?_ ?_ <;> intro h
  ·cases h
  refine G [5, 1, 1, 9, 0] ?_
  exact jca
 rw [if_neg h3]
 obtain ⟨e1, e2⟩ := zg8 (putL l n)
 rw [e1, e2]
 clear e1 e2
 obtain ⟨hv, hs, hl⟩ := hTi.1 h1
 obtain ⟨k1, k2, k3⟩ := hK h2
 have hP := put_s (zcX l) n.key n.o hs k1
 have hlen := TR.put_len (zcX l) n.key n.o
 rw [← hl] at hlen
 have hL := list_s ((zcX l).put n.key n.o) qk
 have hCl := cloneN_s ((zcX l).put n.key n.o).list.length (nds ((zcX l).put n.key n.o).list) (zem _) qk
 have hT' : Fn prog 77 [.p (ndsV l)] (.p (trP (zcX l))) [] := hT
 have hiv := zen ((zcX l).put n.key n.o).list
 unfold putL
 unfold keyA at hP
 rw [← k2, ← k3] at hP
 generalize ((zcX l).put n.key n.o) = u at *
 generalize zcX l = t at *
 generalize nds u.list = cs at *
 generalize u.list.length = m at *
 refine fnI fun w0 A => ?_
 refine G [10] ?_
 refine cV hC ?_
 refine G [5, 1, 1, 9, 0] ?_
 refine cX ?_ ?_ <;> intro h
 ·cases h
 refine G [5] ?_
 refine cV hN ?_
 refine G [5, 1, 1, 9, 0] ?_
 refine cX ?_ ?_ <;> intro h
 ·cases h
 refine jcS ?_
 refine cX ?_ ?_ <;> intro h
 ·exact absurd qG h3
 refine G [2] ?_
 refine zfE 8 qm ?_
 refine mP rfl rfl ?_
 refine cK hT' ?_
 refine G [2] ?_
 refine cK hP ?_
 refine cK hL ?_
 refine zbQ (fun n => 28 + 1000 * n) (hCl) rfl rfl func44 rfl rfl (by simp [AV.noSl, AV.noSlL, AObj.noSl, hiv]) (by simp [AV.noSl, AV.noSlL, AObj.noSl, hiv]) rfl rfl rfl ql rfl rfl rfl ?_
 refine G [4, 9, 0] ?_
 refine yT (fun _ => 28) ?_ ?_
 ·exact rfl
 ·exact ⟨⟨rfl, rfl⟩, trivial⟩
end Go.Proofs.YtlfjpippeeikdaaGreatDoor
