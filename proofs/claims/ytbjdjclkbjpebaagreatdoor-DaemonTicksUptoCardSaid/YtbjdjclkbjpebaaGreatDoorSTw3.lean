/- A stage, typed, as data; stage.Check, the reference's StageFault. -/
import Derived.Test.YtbjdjclkbjpebaaGreatDoorSBt2
import Derived.Test.YtbjdjclkbjpebaaGreatDoorSTw2
import Derived.Test.YtbjdjclkbjpebaaGreatDoorSNetY
namespace Go.Proofs.YtbjdjclkbjpebaaGreatDoor
open Tryz
open Go.RowKit Go.Sort
set_option maxHeartbeats 16000000
set_option linter.unusedVariables false
set_option linter.unusedSimpArgs false
set_option maxRecDepth 100000
structure SG where
 lv : Bool
 rest : List SE
 c : CF
 at_ : ByteArray
 err : Int
def sgC (lv : Bool) (n : Nat) (R : List PV) (key : ByteArray) (port : Int) (m : Nat) (L : List PV) (at_ : ByteArray) (err : Int) : List AV :=
 [.p (.v (.bool lv)), .p (.sl n 5 R), .p (.v (.string key)), .p (.v (.int .i64 port)), .p (.sl m 5 L), .p (.v (.string at_)), .p (.v (.int .i64 err))]
def SG.cells (s : SG) : List AV := sgC s.lv s.rest.length (s.rest.flatMap SE.pv) s.c.key s.c.port s.c.ps.length (s.c.ps.flatMap PE.pv) s.at_ s.err
def SG.pv (s : SG) : List PV := [.v (.bool s.lv), .sl s.rest.length 5 (s.rest.flatMap SE.pv)] ++ s.c.pv ++ [.v (.string s.at_), .v (.int .i64 s.err)]
structure SG.OK (s : SG) : Prop where
 rest : ∀ x ∈ s.rest, x.OK
 len : s.rest.length ≤ 1048576
 c : s.c.OK
 az : s.at_.size ≤ 1048576
 kz : s.c.key.size ≤ 1048576
theorem SG.of_ty {n : Nat} {ps : List PV} (h : Ty prog (n + 8) 30 ps) (hb : PV.bdL 1048576 ps) : ∃ s : SG, s.OK ∧ ps = s.pv := by
 obtain ⟨_, rfl, x0, _, rfl, t0, x1, _, rfl, t1, x2, _, rfl, t2, x3, _, rfl, t3, x4, _, rfl, t4, rfl⟩ := zbh (ts := [4, 27, 24, 9, 28]) (by kernel_rfl) h
 obtain ⟨a0, rfl⟩ := zgv U4 t0
 obtain ⟨l, okl, hl, rfl⟩ := SE.list_ty t1 (zbx hb x1 (by simp))
 have hb2 := zbx hb x2 (by simp)
 have hb3 := zbx hb x3 (by simp)
 obtain ⟨c, okc, rfl⟩ := CF.of_ty t2 hb2
 obtain ⟨a3, rfl, _⟩ := zbJ U9 t3
 obtain ⟨a4, rfl, _⟩ := zbm underlying28 t4
 simp only [CF.pv, PV.bdL, PV.bd] at hb2 hb3
 exact ⟨⟨a0, l, c, a3, a4⟩, ⟨okl, hl, okc, hb3.1, hb2.1⟩, by simp [SG.pv]⟩
def seG (l : List SE) (i : Nat) : SE := l.getD i ⟨0, ⟨#[]⟩, 0, 0, 0⟩
theorem seG_at {l : List SE} {i : Nat} {p : SE} (h : l[i]? = some p) : seG l i = p := by unfold seG; rw [List.getD_eq_getElem?_getD, h]; rfl
def restE (l : List SE) : Int := fnz (fun i => seE (seG l i)) l.length
def sgE (s : SG) : Int :=
 if s.lv = false then (if 0 < s.rest.length ∨ s.at_ ≠ ⟨#[]⟩ ∨ s.err ≠ 0 ∨ s.c.key ≠ ⟨#[]⟩ ∨ s.c.port ≠ 0 ∨ 0 < s.c.ps.length then 14 else 0)
 else if cfE s.c ≠ 0 then cfE s.c else if 60 < s.rest.length then 1 else if restE s.rest ≠ 0 then restE s.rest
 else if (s.at_ ≠ ⟨#[]⟩ ∧ keyE s.at_ ≠ 0) ∨ s.err < 0 ∨ 14 < s.err then 4 else 0
theorem sgCheck_s (s : SG) (ok : s.OK) : Fn prog 25 [.agg s.cells] (.p (.v (.int .i64 (sgE s)))) [] := by
 obtain ⟨lv, rest, c, at_, err⟩ := s
 obtain ⟨okr, hl, okc, haz, hkz⟩ := ok
 dsimp only at okr hl okc haz hkz
 obtain ⟨E, hE⟩ : ∃ E, sgE ⟨lv, rest, c, at_, err⟩ = E := ⟨_, rfl⟩
 rw [hE]
 unfold sgE at hE
 dsimp only at hE
 have hCf := zhc c okc
 have hK := zbf at_
 have hrE : restE rest = fnz (fun i => seE (seG rest i)) rest.length := rfl
 have hpl := okc.len
 generalize cfE c = ce at *
 generalize keyE at_ = k1 at *
 obtain ⟨key, port, ps⟩ := c
 dsimp only at hE hpl hkz
 change Fn prog _ [.agg [.p (.v (.string key)), .p (.v (.int .i64 port)), .p (.sl ps.length 5 (ps.flatMap PE.pv))]] _ _ at hCf
 show Fn prog _ [.agg (sgC lv rest.length (rest.flatMap SE.pv) key port ps.length (ps.flatMap PE.pv) at_ err)] _ _
 clear okc
 generalize ps.flatMap PE.pv = L at *
 generalize ps.length = M at *
 refine fnI fun w0 A => ?_
 refine G [12, 9, 0] ?_
 refine cX (fun h => ?_) fun h => ?_
 ·have h0 : lv = false := by simpa using h
  clear h
  rw [if_pos h0] at hE
  refine G [11, 2, 4, 2, 5, 2, 5, 2, 4] ?_
  refine mb2 _ rfl rfl (fun hb => (zdu U22)) (fun _ => trivial) ?_
  refine G [1, 2, 1, 9, 0] ?_
  refine cX (fun h => ?_) fun h => ?_
  ·have h1 : 0 < rest.length ∨ at_ ≠ ⟨#[]⟩ ∨ err ≠ 0 ∨ key ≠ ⟨#[]⟩ ∨ port ≠ 0 ∨ 0 < M := by
    simp at h
    simp only [or_assoc] at h
    exact h
   exact jbs
  ·have h1 : ¬ (0 < rest.length ∨ at_ ≠ ⟨#[]⟩ ∨ err ≠ 0 ∨ key ≠ ⟨#[]⟩ ∨ port ≠ 0 ∨ 0 < M) := by
    simp at h
    simp only [not_or]
    simp only [and_assoc] at h
    obtain ⟨q1, q2, q3, q4, q5, q6⟩ := h
    refine ⟨by simp [q1], by simpa using q2, by simpa using q3, by simpa using q4, by simpa using q5, by omega⟩
   rw [if_neg h1] at hE
   subst hE
   refine jcs ?_
   exact yE
 have h0 : ¬ lv = false := by simpa using h
 clear h
 rw [if_neg h0] at hE
 refine G [6] ?_
 refine cK hCf ?_
 refine jcq ?_
 refine cX (fun h => ?_) fun h => ?_
 ·have h1 : ce ≠ 0 := by simpa using h
  exact jaP
 have h1 : ce = 0 := by simpa using h
 clear h
 rw [if_neg (by simp [h1])] at hE
 refine G [9, 9, 0] ?_
 refine cX (fun h => ?_) fun h => ?_
 ·exact jcd
 have h2 : ¬ 60 < rest.length := by simp at h; omega
 clear h
 rw [if_neg h2] at hE
 refine G [10] ?_
 refine zag (fun m st => ∃ i : Nat, m + i = rest.length ∧ (∀ j, j < i → seE (seG rest j) = 0) ∧ st = St.of [(1, .ref 1 0), (54, .p (.sl rest.length 5 (rest.flatMap SE.pv))), (55, .p (.v (.int .i64 rest.length))), (56, .p (.v (.int .i64 i)))] [(1, .box 30 (sgC lv rest.length (rest.flatMap SE.pv) key port M L at_ err))]) rest.length ?_ ?_
 ·exact jar
 rintro m st ⟨i, hi, hf, rfl⟩
 refine G [5] ?_
 refine cX (fun h => ?_) fun h => ?_
 ·have hlt : i < rest.length := by simp at h; omega
  clear h
  obtain ⟨x, hx⟩ : ∃ x, rest[i]? = some x := ⟨rest[i], List.getElem?_eq_getElem hlt⟩
  have hch := zar (f := SE.pv) (k := 5) (fun _ => rfl) hx
  have hle := zas (f := SE.pv) (k := 5) (fun _ => rfl) hlt
  have hC := check_s x (okr x (List.mem_of_getElem? hx))
  exact jaw
 have hge : i = rest.length := by simp at h; omega
 clear h
 subst hge
 rw [hrE, zcN hf, if_neg (by simp)] at hE
 clear hf hrE
 refine G [10] ?_
 refine mb2 _ rfl rfl (fun _ => zbc func55 rfl rfl (hK) (by first | rfl | simp [AV.okInL, AV.okIn, zay]) rfl) (fun _ => trivial) ?_
 exact jaE
def rootRes : Option (TR × List ND) → TR
 | none => .nil
 | some (t, _) => t
theorem tree_s (l : List ND) (hok : ∀ x ∈ l, x.OK) (hz : l.length ≤ 4611686018427387904) : Fn prog 100 [.p (ndsV l)] (.p (trP (rootRes (zdk l.length l)))) [] := by
 have hg := grow_s l.length l (Nat.le_refl _) hok hz
 cases hq : zdk l.length l with
 | none =>
  rw [hq] at hg
  replace hg : Fn prog 137 [.p (ndsV l)] (.tup [.p (.v (.pointer none)), .p (.v (.slice none 0 0)), .p (.v (.bool false))]) [] := hg
  refine fnI fun w0 A => ?_
  refine G [7] ?_
  refine cK hg ?_
  refine G [14, 9, 0] ?_
  exact yE
 | some r =>
  obtain ⟨t, rest⟩ := r
  rw [hq] at hg
  replace hg : Fn prog 137 [.p (ndsV l)] (.tup [.p (trP t), .p (ndsV rest), .p (.v (.bool true))]) [] := hg
  refine fnI fun w0 A => ?_
  refine G [7] ?_
  refine cK hg ?_
  refine G [14, 9, 0] ?_
  exact yE
def zeh : List ND → Int
 | [] => 0
 | x :: l => if x.fault ≠ 0 then x.fault else zeh l
def endsB : Option (TR × List ND) → Bool
 | some (_, []) => true
 | _ => false
def zf4 (l : List ND) : Int := if zeh l ≠ 0 then zeh l else if l = [] then 0 else if endsB (zdk l.length l) = true then 0 else 14
theorem faultL_at : ∀ {l : List ND} {i : Nat} {x : ND}, l[i]? = some x → (∀ j, j < i → ∀ y, l[j]? = some y → y.fault = 0) → x.fault ≠ 0 → zeh l = x.fault
 | [], i, x, h, _, _ => by simp at h
 | y :: l, 0, x, h, _, hx => by simp at h; subst h; rw [zeh, if_pos hx]
 | y :: l, i + 1, x, h, hj, hx => by
  have h0 := hj 0 (by omega) y (by simp)
  rw [zeh, if_neg (by simp [h0])]
  exact faultL_at (i := i) (by simpa using h) (fun j hj' z hz => hj (j + 1) (by omega) z (by simpa using hz)) hx
theorem ze1 : ∀ {l : List ND}, zeh l = 0 ↔ ∀ x ∈ l, x.fault = 0
 | [] => by simp [zeh]
 | y :: l => by
  rw [zeh]
  by_cases h : y.fault = 0
  ·rw [if_neg (by simp [h]), ze1]; simp [h]
  ·rw [if_pos h]; simp [h]
theorem nds_at (l : List ND) (i : Nat) (x : ND) (h : l[i]? = some x) : ((nds l).drop (i * 4)).take 4 = x.pv := by
 rw [zig]
 obtain ⟨hi, rfl⟩ := List.getElem?_eq_some_iff.1 h
 rw [List.drop_eq_getElem_cons hi, zdp]; rfl
theorem tcheck_s (l : List ND) (hok : ∀ x ∈ l, x.OK) (hz : l.length ≤ 4611686018427387904) : Fn prog 98 [.p (ndsV l)] (.p (.v (.int .i64 (zf4 l)))) [] := by
 refine fnI fun w0 A => ?_
 refine G [12] ?_
 refine zag (fun m st => ∃ i : Nat, m + i = l.length ∧ (∀ j, j < i → ∀ y, l[j]? = some y → y.fault = 0) ∧ st = St.of [(0, .p (ndsV l)), (9, .p (ndsV l)), (10, .p (.v (.int .i64 l.length))), (11, .p (.v (.int .i64 i)))] []) l.length ?_ ?_
 ·refine ⟨_, re_of0 _ ?_, 0, by omega, by omega, rfl⟩
  ·exact jaU
 rintro m st ⟨i, hi, hj, rfl⟩
 refine G [5] ?_
 refine cX (fun h => ?_) fun h => ?_
 ·have hlt : i < l.length := by simp at h; omega
  clear h
  obtain ⟨x, hx⟩ : ∃ x, l[i]? = some x := ⟨l[i], List.getElem?_eq_getElem hlt⟩
  have hxo := hok x (List.mem_of_getElem? hx)
  have hld := nds_at l i x hx
  have hln := zeb l
  have hC := zfp x.a x.n hxo.a0 hxo.a1
  have hxf : zai x.a x.n = x.fault := rfl
  rw [hxf] at hC
  obtain ⟨F, hF⟩ : ∃ F, F = x.fault := ⟨_, rfl⟩
  rw [← hF] at hC
  refine G [6] ?_
  refine zaa (zaI U90 rfl sz90 (by rw [List.length_drop, hln]; first | omega | (simp only [Int.toNat_natCast]; omega)) ((show _ = x.pv from hld))) rfl rfl ?_
  refine G [7] ?_
  refine cV hC ?_
  refine jcq ?_
  refine cX (fun h => ?_) fun h => ?_
  ·have hne : x.fault ≠ 0 := by rw [← hF]; simpa using h
   have hE : zf4 l = F := by
    unfold zf4
    have := faultL_at hx hj hne
    rw [this, if_pos hne, hF]
   rw [hE]
   refine jcs ?_
   exact yE
  ·have he : x.fault = 0 := by rw [← hF]; simpa using h
   refine jct ?_
   refine ⟨m - 1, by omega, _, re_of0 _ ?_, i + 1, by omega, ?_, rfl⟩
   ·exact jaU
   ·intro j hj' y hy
    by_cases hji : j = i
    ·subst hji; rw [hx] at hy; cases hy; exact he
    ·exact hj j (by omega) y hy
 have hge : i = l.length := by simp at h; omega
 clear h
 subst hge
 have h0 : zeh l = 0 := ze1.2 fun x hx => by
  obtain ⟨j, hj1, rfl⟩ := List.mem_iff_getElem.1 hx
  exact hj j hj1 _ (List.getElem?_eq_getElem hj1)
 unfold zf4
 rw [if_neg (by simp [h0])]
 refine jcM ?_
 refine cX (fun h => ?_) fun h => ?_
 ·have hl : l = [] := List.eq_nil_of_length_eq_zero (by simpa using h)
  rw [if_pos hl]
  refine jct ?_
  exact yE
 have hl : l ≠ [] := by rintro rfl; simp at h
 rw [if_neg hl]
 have hg := grow_s l.length l (Nat.le_refl _) hok hz
 cases hq : zdk l.length l with
 | none =>
  rw [hq] at hg
  replace hg : Fn prog 137 [.p (ndsV l)] (.tup [.p (.v (.pointer none)), .p (.v (.slice none 0 0)), .p (.v (.bool false))]) [] := hg
  rw [show endsB none = false from rfl, if_neg (by simp)]
  refine G [5] ?_
  refine cK hg ?_
  refine G [18, 9, 0] ?_
  refine cX (fun h => ?_) fun h => ?_
  ·refine G [5, 9, 0] ?_
   exact yE
  ·cases h
 | some r =>
  obtain ⟨t, rest⟩ := r
  rw [hq] at hg
  replace hg : Fn prog 137 [.p (ndsV l)] (.tup [.p (trP t), .p (ndsV rest), .p (.v (.bool true))]) [] := hg
  refine G [5] ?_
  refine cK hg ?_
  refine G [18, 9, 0] ?_
  refine cX (fun h => ?_) fun h => ?_
  ·have : endsB (some (t, rest)) = false := by
    cases rest with
    | nil => simp at h
    | cons => rfl
   rw [this, if_neg (by simp)]
   refine G [5, 9, 0] ?_
   exact yE
  ·have : endsB (some (t, rest)) = true := by
    cases rest with
    | nil => rfl
    | cons => simp at h
   rw [this, if_pos rfl]
   refine G [6, 9, 0] ?_
   exact yE
end Go.Proofs.YtbjdjclkbjpebaaGreatDoor
