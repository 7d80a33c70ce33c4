/- slices.Contains of nets; conf.Check, over data. -/
import Derived.Test.YtbjdjclkbjpebaaGreatDoorSEq2
import Derived.Test.YtbjdjclkbjpebaaGreatDoorSBt1
namespace Go.Proofs.YtbjdjclkbjpebaaGreatDoor
open Tryz
open Go.RowKit Go.Sort
set_option maxHeartbeats 16000000
set_option linter.unusedVariables false
set_option linter.unusedSimpArgs false
set_option maxRecDepth 100000
section
variable {P : Program} {d : Option Tmp} {ty : TypeId} {pos : String} {af : Array Edge} {g : Option (Nat × Bool)}
theorem zfR {xt yt : TypeId} {x y : Operand} {s t : ByteArray} {c : Bool} (h : leK s t = c) : AOp P ⟨d, .binOp .leq xt x y yt, ty, pos, af, g⟩ [.p (.v (.string s)), .p (.v (.string t))] [] [] (.p (.v (.bool c))) := by
 subst h
 exact a_sleq
end
theorem awp_joinS {P : Program} {w0 : World} {A : Ctx1} {nt : Nat} {c c2 d : Code} {Q : Exit → St → Prop} {st : St} (st1 : St) (h : awp ⟨P, w0, ctx0 A, nt⟩ c (Thn (awp ⟨P, w0, ctx0 A, nt⟩ c2 (Thn (fun st' => Re st' st1) Q)) (Thn (fun st' => Re st' st1) Q)) st) (k : awp ⟨P, w0, ctx0 A, nt⟩ d Q st1) :
  awp ⟨P, w0, ctx0 A, nt⟩ c (Thn (awp ⟨P, w0, ctx0 A, nt⟩ c2 (Thn (awp ⟨P, w0, ctx0 A, nt⟩ d Q) Q)) (Thn (awp ⟨P, w0, ctx0 A, nt⟩ d Q) Q)) st :=
 zfv h fun e st' he => by
  cases e with
  | normal => exact zcH st1 he k
  | _ => exact he
def idxN (n : NtP) : List NtP → Int
 | [] => -1
 | x :: xs => if n = x then 0 else if idxN n xs < 0 then -1 else idxN n xs + 1
theorem idxN_at {n : NtP} : ∀ {xs : List NtP} {k : Nat}, (hk : k < xs.length) → n = xs[k] → (∀ j, (hj : j < k) → n ≠ xs[j]) → idxN n xs = k
 | x :: xs, 0, _, h, _ => by
  have : n = x := by simpa using h
  simp [idxN, this]
 | x :: xs, k + 1, hk, h, hb => by
  have h0 : n ≠ x := by simpa using hb 0 (by omega)
  have ih := idxN_at (xs := xs) (k := k) (by simpa using hk) (by simpa using h) (fun j hj => by simpa using hb (j + 1) (by omega))
  simp only [idxN, if_neg h0, ih]
  rw [if_neg (by omega)]
  omega
theorem idxN_none {n : NtP} : ∀ {xs : List NtP}, (∀ j, (hj : j < xs.length) → n ≠ xs[j]) → idxN n xs = -1
 | [], _ => rfl
 | x :: xs, hb => by
  have h0 : n ≠ x := hb 0 (by simp)
  have ih := idxN_none (n := n) (xs := xs) (fun j hj => hb (j + 1) (by simpa using hj))
  simp [idxN, h0, ih]
theorem idxN_ge (n : NtP) : ∀ xs : List NtP, (0 ≤ idxN n xs ↔ n ∈ xs)
 | [] => by simp [idxN]
 | x :: xs => by
  have ih := idxN_ge n xs
  unfold idxN
  by_cases h : n = x
  ·rw [if_pos h]; simp [h]
  ·rw [if_neg h]
   by_cases h2 : idxN n xs < 0
   ·rw [if_pos h2]
    simp only [List.mem_cons, h, false_or]
    rw [← ih]; omega
   ·rw [if_neg h2]
    simp only [List.mem_cons, h, false_or]
    rw [← ih]; omega
theorem eqNets (a b c d : Int) : eqL [.int .u32 a, .int .i64 b] [.int .u32 c, .int .i64 d] = decide ((a, b) = (c, d)) := by
 rw [Bool.eq_iff_iff, zaQ, decide_eq_true_eq]
 simp
theorem indexN_s (xs : List NtP) (a b : Int) (N : Nat) (hN : xs.length = N) (hm : N ≤ 100000) : Fn prog 93 [.p (.sl N 2 (xs.flatMap ntC)), .agg [.p (.v (.int .u32 a)), .p (.v (.int .i64 b))]] (.p (.v (.int .i64 (idxN (a, b) xs)))) [] := by
 refine fnI fun w0 A => ?_
 refine G [13] ?_
 refine zag (fun m st => ∃ k : Nat, m + k = N ∧ (∀ j, (hj : j < k) → (hj2 : j < xs.length) → (a, b) ≠ xs[j]) ∧ st = St.of [(0, .p (.sl N 2 (xs.flatMap ntC))), (3, .ref 3 0), (7, .p (.v (.int .i64 N))), (8, .p (.v (.int .i64 k)))] [(3, .box 88 [.p (.v (.int .u32 a)), .p (.v (.int .i64 b))])]) N ?_ ?_
 ·refine ⟨_, zah id _ _ ?_ ?_ rfl, 0, by omega, fun j hj => by omega, rfl⟩
  ·exact jak
  ·exact ⟨⟨rfl, rfl⟩, trivial⟩
 rintro m st ⟨k, hk, hb, rfl⟩
 refine G [5] ?_
 refine cX (fun h => ?_) fun h => ?_
 ·have hlt : k < N := by simp at h; omega
  clear h
  have hq : xs[k]? = some (xs[k]'(by omega)) := List.getElem?_eq_getElem (by omega)
  have hch := zar (f := ntC) (k := 2) (fun _ => rfl) hq
  have hle := zas (f := ntC) (k := 2) (fun _ => rfl) (show k < xs.length by omega)
  have hat := @idxN_at (a, b) xs k (by omega)
  have hstep : (a, b) ≠ (xs[k]'(by omega)) → ∀ j, (hj : j < k + 1) → (hj2 : j < xs.length) → (a, b) ≠ xs[j] := fun hne j hj hj2 => by
   by_cases e : j = k
   ·subst e; exact hne
   ·exact hb j (by omega) hj2
  have hb' : ∀ j, (hj : j < k) → (a, b) ≠ (xs[j]'(by omega)) := fun j hj => hb j hj (by omega)
  generalize hx : (xs[k]'(by omega)) = x at *
  obtain ⟨c, e⟩ := x
  generalize xs.flatMap ntC = L at *
  refine G [8] ?_
  by_cases hc : (a, b) = (c, e)
  ·rw [hat hc hb']
   refine G [7] ?_
   refine zaa (zd3 U88 rfl rfl (by kernel_rfl) (by kernel_rfl) (by kernel_rfl) (c := true) (by rw [eqNets]; exact decide_eq_true hc)) rfl rfl ?_
   refine jcM ?_
   exact yE
  ·refine G [7] ?_
   refine zaa (zd3 U88 rfl rfl (by kernel_rfl) (by kernel_rfl) (by kernel_rfl) (c := false) (by rw [eqNets]; exact decide_eq_false hc)) rfl rfl ?_
   refine jcq ?_
   refine ⟨m - 1, by omega, _, zah id _ _ ?_ ?_ rfl, k + 1, by omega, hstep hc, rfl⟩
   ·exact jak
   ·exact ⟨⟨rfl, rfl⟩, trivial⟩
 have hge : k = N := by simp at h; omega
 clear h
 rw [idxN_none fun j hj => hb j (by omega) hj]
 refine jcs ?_
 exact yE
theorem containsN_s (xs : List NtP) (a b : Int) (N : Nat) (hN : xs.length = N) (hm : N ≤ 100000) : Fn prog 57 [.p (.sl N 2 (xs.flatMap ntC)), .agg [.p (.v (.int .u32 a)), .p (.v (.int .i64 b))]] (.p (.v (.bool (decide ((a, b) ∈ xs))))) [] := by
 have hI := indexN_s xs a b N hN hm
 have hge := idxN_ge (a, b) xs
 have hB : decide ((a, b) ∈ xs) = decide (0 ≤ idxN (a, b) xs) := by simp only [hge]
 rw [hB]
 generalize idxN (a, b) xs = k at *
 refine fnI fun w0 A => ?_
 refine G [9] ?_
 refine cV hI ?_
 refine G [4, 9, 0] ?_
 exact yE
theorem nt_push (X : List NtP) (a b : Int) : X.flatMap ntC ++ [.v (.int .u32 a), .v (.int .i64 b)] = (X ++ [(a, b)]).flatMap ntC := by
 rw [List.flatMap_append]
 simp [ntC]
theorem zhc (c : CF) (ok : c.OK) : Fn prog 23 [.agg c.cells] (.p (.v (.int .i64 (cfE c)))) [] := by
 obtain ⟨key, port, l⟩ := c
 obtain ⟨hn, ok⟩ := ok
 dsimp only at hn ok
 obtain ⟨E, hE⟩ : ∃ E, cfE ⟨key, port, l⟩ = E := ⟨_, rfl⟩
 rw [hE]
 unfold cfE at hE
 dsimp only at hE
 have hK := zbf key
 show Fn prog _ [.agg (cfC key port l.length (l.flatMap PE.pv))] _ _
 generalize keyE key = k1 at *
 refine fnI fun w0 A => ?_
 refine G [5] ?_
 by_cases hk : key ≠ ⟨#[]⟩ ∧ k1 ≠ 0
 ·rw [if_pos hk] at hE
  subst hE
  refine jcq ?_
  refine cX (fun h => ?_) fun h => ?_
  ·refine G [4] ?_
   refine cV hK ?_
   refine jcq ?_
   refine cX (fun h => ?_) fun h => ?_
   ·refine jcs ?_
    exact yE
   ·exact absurd (by simpa using h) hk.2
  ·exact absurd (by simpa using h) hk.1
 rw [if_neg hk] at hE
 refine jcq ?_
 refine zcH (St.of [(1, .ref 1 0)] [(1, .box 24 (cfC key port l.length (l.flatMap PE.pv)))]) ?_ ?_
 ·skip
  refine cX (fun h => ?_) fun h => ?_
  ·refine G [4] ?_
   refine cV hK ?_
   refine jcq ?_
   refine cX (fun h => ?_) fun h => ?_
   ·exact absurd ⟨by simp_all, by simpa using h⟩ hk
   ·refine zap (zaz ?_)
    exact jaq
  ·refine zap (zaz ?_)
   exact jaq
 clear hk hK
 refine G [10, 2, 1, 9, 0] ?_
 refine cX (fun h => ?_) fun h => ?_
 ·have h5 : port < 0 ∨ 65535 < port := by simpa using h
  exact jbS
 have h5 : ¬ (port < 0 ∨ 65535 < port) := by simp at h; omega
 clear h
 rw [if_neg h5] at hE
 refine G [9, 9, 0] ?_
 refine cX (fun h => ?_) fun h => ?_
 ·exact ja5
 have h6 : ¬ 6 < l.length := by simp at h; omega
 clear h
 rw [if_neg h6] at hE
 refine jct ?_
 refine za8 (zco 4 100 88 2 rfl rfl) ?_
 refine G [9] ?_
 refine zag (fun m st => ∃ i : Nat, m + i = l.length ∧ (∀ j, j < i → zej key l j = 0) ∧ st = St.of [(1, .ref 1 0), (4, .row 100), (32, .p (.sl l.length 5 (l.flatMap PE.pv))), (33, .p (.v (.int .i64 l.length))), (34, .p (.v (.int .i64 i)))] [(1, .box 24 (cfC key port l.length (l.flatMap PE.pv))), (100, .row 88 2 (zcj l i).length ((zcj l i).flatMap ntC))]) l.length ?_ ?_
 ·exact jaB
 rintro m st ⟨i, hi, hf, rfl⟩
 refine G [5] ?_
 refine cX (fun h => ?_) fun h => ?_
 ·have hlt : i < l.length := by simp at h; omega
  clear h
  obtain ⟨p, hp⟩ : ∃ p, l[i]? = some p := ⟨l[i], List.getElem?_eq_getElem hlt⟩
  have hch := zar (f := PE.pv) (k := 5) (fun _ => rfl) hp
  have hle := zas (f := PE.pv) (k := 5) (fun _ => rfl) hlt
  obtain ⟨hok, hpl⟩ := ok p (List.mem_of_getElem? hp)
  have hC := right_s p hok
  have hhit := @zcd (zej key l) i l.length hf hlt
  have hst : zej key l i = if peE p ≠ 0 then peE p else if (0 < i ∧ leK p.key (peG l (i - 1)).key = true) ∨ p.key = key then 6 else if dupN (zcj l i) p.nets = true then 6 else 0 := by unfold zej; rw [zgO hp]
  have hgood := @zdo p
  have hnx := zfJ hp
  have hbl : (zcj l i).length ≤ 8 * i := netsB_len (fun j hj => by
   have h0 := hf j hj
   unfold zej at h0
   split at h0
   ·exact absurd h0 (by assumption)
   ·rename_i h1
    exact (zdo (Decidable.not_not.1 h1)).1) (by omega)
  have hprev : ∀ j, i = j + 1 → (((l.flatMap PE.pv).drop (j * 5)).take 5 = (peG l j).pv) ∧ j * 5 + 5 ≤ (l.flatMap PE.pv).length := by
   intro j hj
   obtain ⟨r, hr⟩ : ∃ r, l[j]? = some r := ⟨l[j], List.getElem?_eq_getElem (by omega)⟩
   rw [zgO hr]
   exact ⟨zar (f := PE.pv) (k := 5) (fun _ => rfl) hr, zas (f := PE.pv) (k := 5) (fun _ => rfl) (by omega)⟩
  generalize hL : l.flatMap PE.pv = L at *
  generalize peE p = e at *
  refine G [10] ?_
  refine jcQ ?_
  refine G [4] ?_
  refine jdm ?_
  refine cK hC ?_
  refine jcq ?_
  refine cX (fun h => ?_) fun h => ?_
  ·exact jca
  have h7 : e = 0 := by simpa using h
  clear h
  rw [if_neg (by simp [h7])] at hst
  obtain ⟨hn8, _⟩ := hgood h7
  --@rest
  have hcase : i = 0 ∨ ∃ j, i = j + 1 := by
   exact jbz
  by_cases hd : (0 < i ∧ leK p.key (peG l (i - 1)).key = true) ∨ p.key = key
  ·rw [if_pos hd] at hst
   rw [hhit (by rw [hst]; decide), hst] at hE
   subst hE
   rcases hcase with hi0 | ⟨j0, hij⟩
   ·have hkk : p.key = key := hd.resolve_left fun q => by omega
    refine G [5, 3, 17] ?_
    exact jbK
   ·obtain ⟨hpv, hple⟩ := hprev j0 hij
    have hpk : (L.drop (j0 * 5))[0]? = some (.v (.string (peG l j0).key)) := by
     have := congrArg (fun x => x[0]?) hpv
     rw [List.getElem?_take] at this
     simpa [PE.pv] using this
    rw [show i - 1 = j0 by omega] at hd
    by_cases hlk : leK p.key (peG l j0).key = true
    ·refine G [5, 4, 7] ?_
     refine jdw ?_
     refine jdz (zam zhR rfl) ?_
     refine jdz (zaG U9 rfl hpk) ?_
     refine jdz (zfR (c := true) (hlk)) ?_
     refine G [15, 9, 0] ?_
     exact yE
    ·have hkk : p.key = key := hd.resolve_left fun q => hlk q.2
     refine G [5, 4, 7] ?_
     refine jdw ?_
     refine jdz (zam zhR rfl) ?_
     refine jdz (zaG U9 rfl hpk) ?_
     refine zaa (zfR (c := false) (by simpa using hlk)) rfl rfl ?_
     refine G [6] ?_
     exact jbK
  rw [if_neg hd] at hst
  have hkk : ¬ p.key = key := fun e => hd (.inr e)
  refine G [3] ?_
  refine awp_joinS (St.of [(1, .ref 1 0), (4, .row 100), (6, .ref 6 0), (32, .p (.sl l.length 5 L)), (33, .p (.v (.int .i64 l.length))), (34, .p (.v (.int .i64 i)))] [(1, .box 24 (cfC key port l.length L)), (6, .box 84 p.cells), (100, .row 88 2 (zcj l i).length ((zcj l i).flatMap ntC))]) ?_ ?_
  ·rcases hcase with hi0 | ⟨j0, hij⟩
   ·skip
    refine G [2, 3, 17] ?_
    refine jdz (zbu (c := false) (decide_eq_false hkk)) ?_
    refine G [4, 9, 0] ?_
    exact jaq
   ·obtain ⟨hpv, hple⟩ := hprev j0 hij
    have hpk : (L.drop (j0 * 5))[0]? = some (.v (.string (peG l j0).key)) := by
     have := congrArg (fun x => x[0]?) hpv
     rw [List.getElem?_take] at this
     simpa [PE.pv] using this
    rw [show i - 1 = j0 by omega] at hd
    have hlk : ¬ leK p.key (peG l j0).key = true := fun e => hd (.inl ⟨by omega, e⟩)
    skip
    refine G [2, 4, 7] ?_
    refine jdw ?_
    refine jdz (zam zhR rfl) ?_
    refine jdz (zaG U9 rfl hpk) ?_
    refine zaa (zfR (c := false) (by simpa using hlk)) rfl rfl ?_
    refine G [6] ?_
    refine jdz (zbu (c := false) (decide_eq_false hkk)) ?_
    refine G [4, 9, 0] ?_
    exact jaq
  clear hd hprev hcase
  obtain ⟨DD, hDD⟩ : ∃ b, dupN (zcj l i) p.nets = b := ⟨_, rfl⟩
  rw [hDD] at hst
  refine G [8] ?_
  refine zag (fun m' st => ∃ j : Nat, m' + j = p.nets.length ∧ ∃ X : List NtP, X.length = (zcj l i).length + j ∧ DD = dupN X (p.nets.drop j) ∧ X = zcj l i ++ p.nets.take j ∧ st = St.of [(1, .ref 1 0), (4, .row 100), (32, .p (.sl l.length 5 L)), (33, .p (.v (.int .i64 l.length))), (34, .p (.v (.int .i64 i))), (66, .p (.sl p.nets.length 2 (p.nets.flatMap ntC))), (67, .p (.v (.int .i64 p.nets.length))), (68, .p (.v (.int .i64 j)))] [(1, .box 24 (cfC key port l.length L)), (100, .row 88 2 ((zcj l i).length + j) (X.flatMap ntC))]) p.nets.length ?_ ?_
  ·refine ⟨_, zah id _ _ ?_ ?_ rfl, 0, by omega, zcj l i, by omega, by rw [List.drop_zero]; exact hDD.symm, by simp, rfl⟩
   ·exact jak
   ·exact ⟨⟨rfl, rfl⟩, ⟨rfl, rfl⟩, trivial⟩
  rintro m' st ⟨j, hj, X, hX, hdp, hXe, rfl⟩
  refine G [5] ?_
  refine cX (fun h => ?_) fun h => ?_
  ·have hlj : j < p.nets.length := by simp at h; omega
   clear h
   obtain ⟨q, hq⟩ : ∃ q, p.nets[j]? = some q := ⟨p.nets[j], List.getElem?_eq_getElem hlj⟩
   have hch2 := zar (f := ntC) (k := 2) (fun _ => rfl) hq
   have hle2 := zas (f := ntC) (k := 2) (fun _ => rfl) hlj
   have hdr : p.nets.drop j = q :: p.nets.drop (j + 1) := by
    obtain ⟨q1, q2⟩ := List.getElem?_eq_some_iff.1 hq
    rw [List.drop_eq_getElem_cons q1, q2]
   have htk : p.nets.take (j + 1) = p.nets.take j ++ [q] := by
    obtain ⟨q1, q2⟩ := List.getElem?_eq_some_iff.1 hq
    exact jce
   rw [hdr, dupN] at hdp
   obtain ⟨qa, qb⟩ := q
   have hCt := containsN_s X qa qb ((zcj l i).length + j) hX (by omega)
   have hps := nt_push X qa qb
   have hxl : (X.flatMap ntC).length = ((zcj l i).length + j) * 2 := by rw [zaZ (k := 2) (fun _ => rfl), hX]
   generalize hNL : p.nets.flatMap ntC = NL at *
   generalize hXF : X.flatMap ntC = XF at *
   refine G [8] ?_
   refine jdA (zaf (Y := .agg [.p (.v (.int .u32 qa)), .p (.v (.int .i64 qb))]) sz88 rfl rfl (Nat.eq_of_beq_eq_true rfl)) ?_
   refine zac ?_
   by_cases hm : (qa, qb) ∈ X
   ·rw [show (decide ((qa, qb) ∈ X) || dupN (X ++ [(qa, qb)]) (p.nets.drop (j + 1))) = true by simp [hm]] at hdp
    rw [if_pos hdp] at hst
    rw [hhit (by rw [hst]; decide), hst] at hE
    subst hE
    rw [decide_eq_true hm] at hCt
    refine G [5] ?_
    refine cV hCt ?_
    refine G [6] ?_
    exact jaL
   ·rw [show (decide ((qa, qb) ∈ X) || dupN (X ++ [(qa, qb)]) (p.nets.drop (j + 1))) = dupN (X ++ [(qa, qb)]) (p.nets.drop (j + 1)) by simp [hm]] at hdp
    rw [decide_eq_false hm] at hCt
    refine G [5] ?_
    refine cV hCt ?_
    refine G [6] ?_
    refine jdA (zae 77 U82 sz88 zc88 (Nat.le_of_ble_eq_true rfl) (Nat.le_of_ble_eq_true rfl) rfl rfl rfl rfl (Nat.le_of_ble_eq_true rfl)) ?_
    refine zab (zal 78 U82 eo88 (zax) (by simp only [maxLen]; omega) (by omega) rfl rfl) rfl rfl ⟨rfl, rfl, rfl, trivial⟩ ?_
    refine jcs ?_
    refine ⟨m' - 1, by omega, _, zah (fun o => bif Nat.beq o 100 then 78 else o) _ _ ?_ ?_ rfl, j + 1, by omega, X ++ [(qa, qb)], by rw [List.length_append, hX]; rfl, hdp, by rw [htk, ← List.append_assoc, hXe], rfl⟩
    ·exact jak
    ·exact ⟨⟨rfl, rfl⟩, ⟨by rw [← hps]; rfl, rfl⟩, trivial⟩
  have hge : j = p.nets.length := by simp at h; omega
  clear h
  subst hge
  rw [List.take_length] at hXe
  have hz : dupN X (p.nets.drop p.nets.length) = false := by rw [List.drop_length]; rfl
  rw [hz] at hdp
  rw [if_neg (by rw [hdp]; decide)] at hst
  refine jct ?_
  refine ⟨m - 1, by omega, _, zah id _ _ ?_ ?_ rfl, i + 1, by omega, fun q hq => ?_, rfl⟩
  ·exact jak
  ·refine ⟨⟨rfl, rfl⟩, ⟨?_, rfl⟩, trivial⟩
   rw [hnx, List.length_append, ← hXe]
   rfl
  ·exact jbL
 have hge : i = l.length := by simp at h; omega
 clear h
 subst hge
 rw [zcN hf] at hE
 subst hE
 refine jcs ?_
 exact yE
end Go.Proofs.YtbjdjclkbjpebaaGreatDoor
