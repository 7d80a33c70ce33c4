/- slices.Contains of nets; conf.Check, over data. -/
import Derived.Test.YtkdfdcodkeclmaaGreatDoorSCf2
import Derived.Test.YtkdfdcodkeclmaaGreatDoorSBt1
namespace Go.Proofs.YtkdfdcodkeclmaaGreatDoor
open Tryz
open Go.RowKit Go.Sort
set_option linter.unusedVariables false
set_option linter.unusedSimpArgs false
set_option maxRecDepth 100000
section
variable {P : Program} {d : Option Tmp} {ty : TypeId} {pos : String} {af : Array Edge} {g : Option (Nat × Bool)}
theorem zeV {xt yt : TypeId} {x y : Operand} {s t : ByteArray} {c : Bool} (h : leK s t = c) : AOp P ⟨d, .binOp .leq xt x y yt, ty, pos, af, g⟩ [.p (.v (.string s)), .p (.v (.string t))] [] [] (.p (.v (.bool c))) := by
 subst h
 exact a_sleq
end
/-- a region and a choice behind it: their ways meet -/
theorem awp_joinS {P : Program} {w0 : World} {A : Ctx1} {nt : Nat} {c c2 d : Code} {Q : Exit → St → Prop} {st : St} (st1 : St) (h : awp ⟨P, w0, ctx0 A, nt⟩ c (Thn (awp ⟨P, w0, ctx0 A, nt⟩ c2 (Thn (fun st' => Re st' st1) Q)) (Thn (fun st' => Re st' st1) Q)) st) (k : awp ⟨P, w0, ctx0 A, nt⟩ d Q st1) :
  awp ⟨P, w0, ctx0 A, nt⟩ c (Thn (awp ⟨P, w0, ctx0 A, nt⟩ c2 (Thn (awp ⟨P, w0, ctx0 A, nt⟩ d Q) Q)) (Thn (awp ⟨P, w0, ctx0 A, nt⟩ d Q) Q)) st :=
 zgt h fun e st' he => by
  cases e with
  | normal => exact zez st1 he k
  | _ => exact he
def idxN (n : NtP) : List NtP → Int
 | [] => -1
 | x :: xs => if n = x then 0 else if idxN n xs < 0 then -1 else idxN n xs + 1
theorem idxN_at {n : NtP} : ∀ {xs : List NtP} {k : Nat}, (hk : k < xs.length) → n = xs[k] → (∀ j, (hj : j < k) → n ≠ xs[j]) → idxN n xs = k
 | x :: xs, 0, _, h, _ => by
  have : n = x := by simpa using h
  simp [idxN, this]
 | x :: xs, k + 1, hk, h, hb => by
  have h0 : n ≠ x := by simpa using hb 0 (by omega)
  have ih := idxN_at (xs := xs) (k := k) (by simpa using hk) (by simpa using h) (fun j hj => by simpa using hb (j + 1) (by omega))
  simp only [idxN, if_neg h0, ih]
  rw [if_neg (by omega)]
  omega
theorem idxN_none {n : NtP} : ∀ {xs : List NtP}, (∀ j, (hj : j < xs.length) → n ≠ xs[j]) → idxN n xs = -1
 | [], _ => rfl
 | x :: xs, hb => by
  have h0 : n ≠ x := hb 0 qS
  have ih := idxN_none (n := n) (xs := xs) (fun j hj => hb (j + 1) (by simpa using hj))
  simp [idxN, h0, ih]
theorem idxN_ge (n : NtP) : ∀ xs : List NtP, (0 ≤ idxN n xs ↔ n ∈ xs)
 | [] => by simp [idxN]
 | x :: xs => by
  have ih := idxN_ge n xs
  unfold idxN
  by_cases h : n = x
  ·rw [if_pos h]; simp [h]
  ·rw [if_neg h]
   by_cases h2 : idxN n xs < 0
   ·rw [if_pos h2]
    simp only [List.mem_cons, h, false_or]
    rw [← ih]; omega
   ·rw [if_neg h2]
    simp only [List.mem_cons, h, false_or]
    rw [← ih]; omega
theorem zcN (a b c d : Int) : eqL [.int .u32 a, .int .i64 b] [.int .u32 c, .int .i64 d] = decide ((a, b) = (c, d)) := by
 rw [Bool.eq_iff_iff, zcn, decide_eq_true_eq]
 simp
theorem indexN_s (xs : List NtP) (a b : Int) (N : Nat) (hN : xs.length = N) (hm : N ≤ 100000) : Fn prog 68 [.p (.sl N 2 (xs.flatMap ntC)), .agg [.p (.v (.int .u32 a)), .p (.v (.int .i64 b))]] (.p (.v (.int .i64 (idxN (a, b) xs)))) [] := by
 refine zaw func68 rfl (qE rfl) fun w0 A => zaa<| tx<| wG (zaK (X := .agg _) 3 rfl) rfl<| wA rfl<| zab<| zaa<| zaa<| tx<| wM rfl<| wP (zbf U58) rfl<| wM rfl<| zab<| zak<| zaN (fun m st => ∃ k : Nat, m + k = N ∧ (∀ j, (hj : j < k) → (hj2 : j < xs.length) → (a, b) ≠ xs[j]) ∧ st = St.of [(0, .p (.sl N 2 (xs.flatMap ntC))), (3, .ref 3 0), (7, .p (.v (.int .i64 N))), (8, .p (.v (.int .i64 k)))] [(3, .box 27 [.p (.v (.int .u32 a)), .p (.v (.int .i64 b))])]) N ?_ ?_
 ·refine ⟨_, zaJ id _ _ ?_ ?_ rfl, 0, qO, fun j hj => by omega, rfl⟩
  ·(repeat (first | exact trivial | (refine ⟨⟨(by first | rfl | (simp; done) | (simp; omega)), rfl⟩, ?_⟩)))
  ·exact ⟨⟨rfl, rfl⟩, trivial⟩
 rintro m st ⟨k, hk, hb, rfl⟩
 refine zaa<| tx<| wP za8 rfl<| zab<| zaa<| zaq _ rfl (fun h => ?_) (fun h => ?_)
 ·have hlt : k < N := by simp at h; omega
  clear h
  have hq : xs[k]? = some (xs[k]'qO) := List.getElem?_eq_getElem qO
  have hch := zaX (f := ntC) (k := 2) (fun _ => rfl) hq
  have hle := zaV (f := ntC) (k := 2) (fun _ => rfl) (show k < xs.length by omega)
  have hat := @idxN_at (a, b) xs k qO
  have hstep : (a, b) ≠ (xs[k]'qO) → ∀ j, (hj : j < k + 1) → (hj2 : j < xs.length) → (a, b) ≠ xs[j] := fun hne j hj hj2 => by
   by_cases e : j = k
   ·subst e; exact hne
   ·exact hb j qO hj2
  have hb' : ∀ j, (hj : j < k) → (a, b) ≠ (xs[j]'qO) := fun j hj => hb j hj qO
  generalize hx : (xs[k]'(by omega)) = x at *
  obtain ⟨c, e⟩ := x
  generalize xs.flatMap ntC = L at *
  refine zae<| zaa<| zak<| zaa<| tx<| wM rfl<| wA rfl<| zab ?_
  by_cases hc : (a, b) = (c, e)
  ·rw [hat hc hb']
   refine zaa<| zaB 4 qK<| wN U27 sz27 rfl ?_
   refine wM rfl<| wM rfl<| wP (zaA U58 sz27 qO qO rfl) rfl<| wP (zaS U27 rfl sz27 (by first | omega | (simp; done) | (simp; omega)) (hch)) rfl ?_
   refine wP (zgw U27 rfl rfl (by kernel_rfl) (by kernel_rfl) (by kernel_rfl) (c := true) (by rw [zcN]; exact decide_eq_true hc)) rfl ?_
   refine zab ⟨qK, ?_⟩
   refine zaf<| zax rfl<| zaa<| tx<| wM rfl<| wA rfl<| zab<| zai<| zaU<| zau<| zau<| zaU<| zau<| yT ?_ ?_
   ·exact rfl
   ·exact trivial
  ·refine zaa<| zaB 4 qK<| wN U27 sz27 rfl ?_
   refine wM rfl<| wM rfl<| wP (zaA U58 sz27 qO qO rfl) rfl<| wP (zaS U27 rfl sz27 (by first | omega | (simp; done) | (simp; omega)) (hch)) rfl ?_
   refine wP (zgw U27 rfl rfl (by kernel_rfl) (by kernel_rfl) (by kernel_rfl) (c := false) (by rw [zcN]; exact decide_eq_false hc)) rfl ?_
   refine zab ⟨qK, ?_⟩
   refine zaf<| zag rfl<| zae<| zbb<| zaf<| tx<| wP (za5 (by first | exact IntWalk.i64_in _ (by omega) | rfl)) rfl ?_
   refine wM rfl<| zab<| zaf<| ⟨m - 1, qO, _, zaJ id _ _ ?_ ?_ rfl, k + 1, qO, hstep hc, rfl⟩
   ·(repeat (first | exact trivial | (refine ⟨⟨(by first | rfl | (simp; done) | (simp; omega)), rfl⟩, ?_⟩)))
   ·exact ⟨⟨rfl, rfl⟩, trivial⟩
 have hge : k = N := by simp at h; omega
 clear h
 rw [idxN_none fun j hj => hb j (by omega) hj]
 refine zaI<| zaa<| tx<| wA rfl<| zab<| zai<| yT ?_ ?_
 ·exact rfl
 ·exact trivial
theorem containsN_s (xs : List NtP) (a b : Int) (N : Nat) (hN : xs.length = N) (hm : N ≤ 100000) : Fn prog 43 [.p (.sl N 2 (xs.flatMap ntC)), .agg [.p (.v (.int .u32 a)), .p (.v (.int .i64 b))]] (.p (.v (.bool (decide ((a, b) ∈ xs))))) [] := by
 have hI := indexN_s xs a b N hN hm
 have hge := idxN_ge (a, b) xs
 have hB : decide ((a, b) ∈ xs) = decide (0 ≤ idxN (a, b) xs) := by simp only [hge]
 rw [hB]
 generalize idxN (a, b) xs = k at *
 refine zaw func43 rfl (qE rfl) fun w0 A => zaa<| tx<| wG (zaK (X := .agg _) 3 rfl) rfl<| wA rfl<| zab<| zaa<| tx<| wM rfl<| wN U27 sz27 rfl ?_
 refine yV (fun n => 7 + 1000 * n) (hI) func68 ?_
 refine wP zeC rfl<| wA rfl<| zab<| zai<| yT ?_ ?_
 ·exact rfl
 ·exact trivial
theorem nt_push (X : List NtP) (a b : Int) : X.flatMap ntC ++ [.v (.int .u32 a), .v (.int .i64 b)] = (X ++ [(a, b)]).flatMap ntC := by
 rw [List.flatMap_append]
 simp [ntC]
set_option maxHeartbeats 8000000 in
theorem zco (c : CF) (ok : c.OK) : Fn prog 19 [.agg c.cells] (.p (.v (.int .i64 (cfE c)))) [] := by
 obtain ⟨key, port, l⟩ := c
 obtain ⟨hn, ok⟩ := ok
 dsimp only at hn ok
 obtain ⟨E, hE⟩ : ∃ E, cfE ⟨key, port, l⟩ = E := ⟨_, rfl⟩
 rw [hE]
 unfold cfE at hE
 dsimp only at hE
 have hK := zcG key
 show Fn prog _ [.agg (cfC key port l.length (l.flatMap PE.pv))] _ _
 generalize keyE key = k1 at *
 refine zaw F19 rfl (qE rfl) fun w0 A => zaa<| tx<| wG (zaK (X := .agg _) 1 rfl) rfl<| wA rfl<| zab ?_
 by_cases hk : key ≠ ⟨#[]⟩ ∧ k1 ≠ 0
 ·rw [if_pos hk] at hE
  subst hE
  refine zaa<| zaa<| tx<| wF zbD rfl<| wL U9 rfl<| wP zdQ rfl<| zab<| zaf<| zaq _ rfl (fun h => ?_) (fun h => ?_)
  ·refine zaa<| tx<| wF zbD rfl<| wL U9 rfl<| yV (fun n => 15 + 1000 * n) (hK) F41 ?_
   refine wA rfl<| zab<| zaa<| tx<| wM rfl<| wP zbR rfl<| zab<| zaf<| zaq _ rfl (fun h => ?_) (fun h => ?_)
   ·refine zaa<| tx<| wM rfl<| wA rfl<| zab<| zai<| zau<| yT ?_ ?_
    ·exact rfl
    ·exact trivial
   ·exact absurd (by simpa using h) hk.2
  ·exact absurd (by simpa using h) hk.1
 rw [if_neg hk] at hE
 refine zaa<| zaa<| tx<| wF zbD rfl<| wL U9 rfl<| wP zdQ rfl<| zab<| zaf<| zez (St.of [(1, .ref 1 0)] [(1, .box 24 (cfC key port l.length (l.flatMap PE.pv)))]) ?_ ?_
 ·skip
  refine zaq _ rfl (fun h => ?_) (fun h => ?_)
  ·refine zaa<| tx<| wF zbD rfl<| wL U9 rfl<| yV (fun n => 15 + 1000 * n) (hK) F41 ?_
   refine wA rfl<| zab<| zaa<| tx<| wM rfl<| wP zbR rfl<| zab<| zaf<| zaq _ rfl (fun h => ?_) (fun h => ?_)
   ·exact absurd ⟨by simp_all, by simpa using h⟩ hk
   ·refine zae<| zaf ?_
    exact zaJ id _ _ (by repeat (first | exact trivial | refine ⟨⟨rfl, rfl⟩, ?_⟩)) (by repeat (first | exact trivial | refine ⟨⟨rfl, rfl⟩, ?_⟩)) rfl
  ·refine zae<| zaf ?_
   exact zaJ id _ _ (by repeat (first | exact trivial | refine ⟨⟨rfl, rfl⟩, ?_⟩)) (by repeat (first | exact trivial | refine ⟨⟨rfl, rfl⟩, ?_⟩)) rfl
 clear hk hK
 refine zaa<| zaa<| tx<| wF zew rfl<| wL U3 rfl<| wP za8 rfl<| wM rfl<| mb2 _ rfl rfl (fun hb => (zbW zew rfl)) (fun _ => trivial) ?_
 refine mb2 _ rfl rfl (fun hb => (zb2 U3 rfl (by first | rfl | assumption))) (fun _ => ⟨rfl, trivial⟩) ?_
 refine mb2 _ rfl rfl (fun hb => zbA) (fun _ => trivial) ?_
 refine wP (a_or (by first | exact id | (simp; done) | grind)) rfl ?_
 refine zab<| zaf<| zaq _ rfl (fun h => ?_) (fun h => ?_)
 ·have h5 : port < 0 ∨ 65535 < port := by simpa using h
  rw [if_pos h5] at hE
  subst hE
  refine zaa<| tx<| wA rfl<| zab<| zai<| zau<| yT ?_ ?_
  ·exact rfl
  ·exact trivial
 have h5 : ¬ (port < 0 ∨ 65535 < port) := by simp at h; omega
 clear h
 rw [if_neg h5] at hE
 refine zae<| zaa<| zaa<| tx<| wF zaH rfl<| wL U22 rfl<| wP (zbf U22) rfl<| wP zbA rfl<| zab<| zaf<| zaq _ rfl (fun h => ?_) (fun h => ?_)
 ·have h6 : 6 < l.length := by simp at h; omega
  rw [if_pos h6] at hE
  subst hE
  refine zaa<| tx<| wA rfl<| zab<| zai<| zau<| yT ?_ ?_
  ·exact rfl
  ·exact trivial
 have h6 : ¬ 6 < l.length := by simp at h; omega
 clear h
 rw [if_neg h6] at hE
 refine zae<| zaa<| tx<| wA rfl<| zab<| zaf<| zbl (zdx 4 100 27 2 rfl rfl)<| zaa<| zaa<| tx<| wF zaH rfl<| wL U22 rfl<| wP (zbf U22) rfl<| wM rfl<| zab<| zak<| zaN (fun m st => ∃ i : Nat, m + i = l.length ∧ (∀ j, j < i → zdq key l j = 0) ∧ st = St.of [(1, .ref 1 0), (4, .row 100), (32, .p (.sl l.length 5 (l.flatMap PE.pv))), (33, .p (.v (.int .i64 l.length))), (34, .p (.v (.int .i64 i)))] [(1, .box 24 (cfC key port l.length (l.flatMap PE.pv))), (100, .row 27 2 (zcx l i).length ((zcx l i).flatMap ntC))]) l.length ?_ ?_
 ·refine ⟨_, zaJ id _ _ ?_ ?_ rfl, 0, qO, qO, rfl⟩
  ·(repeat (first | exact trivial | (refine ⟨⟨(by first | rfl | (simp; done) | (simp; omega)), rfl⟩, ?_⟩)))
  ·exact ⟨⟨rfl, rfl⟩, ⟨rfl, rfl⟩, trivial⟩
 rintro m st ⟨i, hi, hf, rfl⟩
 refine zaa<| tx<| wP za8 rfl<| zab<| zaa<| zaq _ rfl (fun h => ?_) (fun h => ?_)
 ·have hlt : i < l.length := by simp at h; omega
  clear h
  obtain ⟨p, hp⟩ : ∃ p, l[i]? = some p := ⟨l[i], List.getElem?_eq_getElem hlt⟩
  have hch := zaX (f := PE.pv) (k := 5) (fun _ => rfl) hp
  have hle := zaV (f := PE.pv) (k := 5) (fun _ => rfl) hlt
  obtain ⟨hok, hpl⟩ := ok p (List.mem_of_getElem? hp)
  have hC := right_s p hok
  have hhit := @zfG (zdq key l) i l.length hf hlt
  have hst : zdq key l i = if peE p ≠ 0 then peE p else if (0 < i ∧ leK p.key (peG l (i - 1)).key = true) ∨ p.key = key then 6 else if dupN (zcx l i) p.nets = true then 6 else 0 := by unfold zdq; rw [zcj hp]
  have hgood := @zfb p
  have hnx := zeN hp
  have hbl : (zcx l i).length ≤ 8 * i := netsB_len (fun j hj => by
   have h0 := hf j hj
   unfold zdq at h0
   split at h0
   ·exact absurd h0 (by assumption)
   ·rename_i h1
    exact (zfb (Decidable.not_not.1 h1)).1) qO
  have hprev : ∀ j, i = j + 1 → (((l.flatMap PE.pv).drop (j * 5)).take 5 = (peG l j).pv) ∧ j * 5 + 5 ≤ (l.flatMap PE.pv).length := by
   intro j hj
   obtain ⟨r, hr⟩ : ∃ r, l[j]? = some r := ⟨l[j], List.getElem?_eq_getElem qO⟩
   rw [zcj hr]
   exact ⟨zaX (f := PE.pv) (k := 5) (fun _ => rfl) hr, zaV (f := PE.pv) (k := 5) (fun _ => rfl) qO⟩
  generalize hL : l.flatMap PE.pv = L at *
  generalize peE p = e at *
  refine zae<| zaa<| zak<| zaa<| tx<| wM rfl<| wP (zaA U22 sz60 qO qO rfl) rfl<| wP (zaS U60 rfl sz60 (by first | omega | (simp; done) | (simp; omega)) (hch)) rfl ?_
  refine wG (zaF 6 zr60 rfl) rfl<| wA rfl<| wG (zar (Y := .agg p.cells) sz60 rfl rfl (Nat.eq_of_beq_eq_true rfl)) rfl<| zab<| zaa<| zaa<| tx<| wG (zb8 U60 rfl sz60 (by first | exact Nat.le_of_ble_eq_true rfl | omega | (simp only [AV.cells, List.length_map]; omega)) (show _ = p.cells from rfl)) rfl ?_
  refine cS (fun n => 40 + 1000 * n) (hC) func42 ?_
  refine wA rfl<| zab<| zaa<| tx<| wM rfl<| wP zbR rfl<| zab<| zaf<| zaq _ rfl (fun h => ?_) (fun h => ?_)
  ·have h7 : e ≠ 0 := by simpa using h
   rw [if_pos h7] at hst
   rw [hhit (by rw [hst]; exact h7), hst] at hE
   subst hE
   refine zaa<| tx<| wM rfl<| wA rfl<| zab<| zai<| zau<| zaU<| zau<| zau<| zaU<| zau<| yT ?_ ?_
   ·exact rfl
   ·exact trivial
  have h7 : e = 0 := by simpa using h
  clear h
  rw [if_neg (by simp [h7])] at hst
  obtain ⟨hn8, _⟩ := hgood h7
  --@rest
  have hcase : i = 0 ∨ ∃ j, i = j + 1 := by
   cases i with
   | zero => exact .inl rfl
   | succ j => exact .inr ⟨j, rfl⟩
  by_cases hd : (0 < i ∧ leK p.key (peG l (i - 1)).key = true) ∨ p.key = key
  ·rw [if_pos hd] at hst
   rw [hhit (by rw [hst]; decide), hst] at hE
   subst hE
   rcases hcase with hi0 | ⟨j0, hij⟩
   ·have hkk : p.key = key := hd.resolve_left fun q => by omega
    refine zae<| zaa<| zaa<| zaB 4 qK<| wM rfl<| wP (zbP (c := false) (by simp; omega)) rfl ?_
    refine wM rfl<| wS rfl<| wS rfl<| wS rfl<| wS rfl<| wS rfl<| wS rfl<| wS rfl<| wS rfl<| wS rfl<| wS rfl<| wP zaj rfl<| wM rfl<| wF zbC rfl<| wL U9 rfl<| wF zbD rfl<| wL U9 rfl<| wP (zaE (c := true) (decide_eq_true hkk)) rfl<| wP zaj rfl<| zab ⟨qK, ?_⟩
    refine zaf<| zax rfl<| zaa<| tx<| wA rfl<| zab<| zai<| zau<| zaU<| zau<| zau<| zaU<| zau<| yT ?_ ?_
    ·exact rfl
    ·exact trivial
   ·obtain ⟨hpv, hple⟩ := hprev j0 hij
    have hpk : (L.drop (j0 * 5))[0]? = some (.v (.string (peG l j0).key)) := by
     have := congrArg (fun x => x[0]?) hpv
     rw [List.getElem?_take] at this
     simpa [PE.pv] using this
    rw [show i - 1 = j0 by omega] at hd
    by_cases hlk : leK p.key (peG l j0).key = true
    ·refine zae<| zaa<| zaa<| zaB 4 qK<| wM rfl<| wP (zbP (c := true) (by simp; omega)) rfl ?_
     refine wM rfl<| wF zbC rfl<| wL U9 rfl<| wF zaH rfl<| wL U22 rfl<| wM rfl<| wP (zeA (by first | exact IntWalk.i64_in _ (by omega) | rfl)) rfl ?_
     refine wP (zaA U22 sz60 qO qO (show _ = L.drop (j0 * 5) by congr 2; omega)) rfl ?_
     refine wP (zcq zbC rfl) rfl<| wP (zdn U9 rfl hpk) rfl<| wP (zeV (c := true) (hlk)) rfl<| wP zao rfl<| wM rfl<| wS rfl<| wS rfl<| wS rfl<| wS rfl<| wS rfl<| wP zao rfl<| zab ⟨qK, ?_⟩
     refine zaf<| zax rfl<| zaa<| tx<| wA rfl<| zab<| zai<| zau<| zaU<| zau<| zau<| zaU<| zau<| yT ?_ ?_
     ·exact rfl
     ·exact trivial
    ·have hkk : p.key = key := hd.resolve_left fun q => hlk q.2
     refine zae<| zaa<| zaa<| zaB 4 qK<| wM rfl<| wP (zbP (c := true) (by simp; omega)) rfl ?_
     refine wM rfl<| wF zbC rfl<| wL U9 rfl<| wF zaH rfl<| wL U22 rfl<| wM rfl<| wP (zeA (by first | exact IntWalk.i64_in _ (by omega) | rfl)) rfl ?_
     refine wP (zaA U22 sz60 qO qO (show _ = L.drop (j0 * 5) by congr 2; omega)) rfl ?_
     refine wP (zcq zbC rfl) rfl<| wP (zdn U9 rfl hpk) rfl<| wP (zeV (c := false) (by simpa using hlk)) rfl ?_
     refine wP zao rfl<| wM rfl<| wF zbC rfl<| wL U9 rfl<| wF zbD rfl<| wL U9 rfl<| wP (zaE (c := true) (decide_eq_true hkk)) rfl<| wP zaj rfl<| zab ⟨qK, ?_⟩
     refine zaf<| zax rfl<| zaa<| tx<| wA rfl<| zab<| zai<| zau<| zaU<| zau<| zau<| zaU<| zau<| yT ?_ ?_
     ·exact rfl
     ·exact trivial
  rw [if_neg hd] at hst
  have hkk : ¬ p.key = key := fun e => hd (.inr e)
  refine zae<| zaa<| zaa<| awp_joinS (St.of [(1, .ref 1 0), (4, .row 100), (6, .ref 6 0), (32, .p (.sl l.length 5 L)), (33, .p (.v (.int .i64 l.length))), (34, .p (.v (.int .i64 i)))] [(1, .box 24 (cfC key port l.length L)), (6, .box 60 p.cells), (100, .row 27 2 (zcx l i).length ((zcx l i).flatMap ntC))]) ?_ ?_
  ·rcases hcase with hi0 | ⟨j0, hij⟩
   ·skip
    refine zaB 4 qK<| wM rfl<| wP (zbP (c := false) (by simp; omega)) rfl ?_
    refine wM rfl<| wS rfl<| wS rfl<| wS rfl<| wS rfl<| wS rfl<| wS rfl<| wS rfl<| wS rfl<| wS rfl<| wS rfl<| wP zaj rfl<| wM rfl<| wF zbC rfl<| wL U9 rfl<| wF zbD rfl<| wL U9 rfl<| wP (zaE (c := false) (decide_eq_false hkk)) rfl<| wP zaj rfl<| zab ⟨qK, ?_⟩
    refine zaf<| zag rfl<| zae<| zaf ?_
    exact zaJ id _ _ (by repeat (first | exact trivial | refine ⟨⟨rfl, rfl⟩, ?_⟩)) (by repeat (first | exact trivial | refine ⟨⟨rfl, rfl⟩, ?_⟩)) rfl
   ·obtain ⟨hpv, hple⟩ := hprev j0 hij
    have hpk : (L.drop (j0 * 5))[0]? = some (.v (.string (peG l j0).key)) := by
     have := congrArg (fun x => x[0]?) hpv
     rw [List.getElem?_take] at this
     simpa [PE.pv] using this
    rw [show i - 1 = j0 by omega] at hd
    have hlk : ¬ leK p.key (peG l j0).key = true := fun e => hd (.inl ⟨qO, e⟩)
    skip
    refine zaB 4 qK<| wM rfl<| wP (zbP (c := true) (by simp; omega)) rfl ?_
    refine wM rfl<| wF zbC rfl<| wL U9 rfl<| wF zaH rfl<| wL U22 rfl<| wM rfl<| wP (zeA (by first | exact IntWalk.i64_in _ (by omega) | rfl)) rfl ?_
    refine wP (zaA U22 sz60 qO qO (show _ = L.drop (j0 * 5) by congr 2; omega)) rfl ?_
    refine wP (zcq zbC rfl) rfl<| wP (zdn U9 rfl hpk) rfl<| wP (zeV (c := false) (by simpa using hlk)) rfl ?_
    refine wP zao rfl<| wM rfl<| wF zbC rfl<| wL U9 rfl<| wF zbD rfl<| wL U9 rfl<| wP (zaE (c := false) (decide_eq_false hkk)) rfl<| wP zaj rfl<| zab ⟨qK, ?_⟩
    refine zaf<| zag rfl<| zae<| zaf ?_
    exact zaJ id _ _ (by repeat (first | exact trivial | refine ⟨⟨rfl, rfl⟩, ?_⟩)) (by repeat (first | exact trivial | refine ⟨⟨rfl, rfl⟩, ?_⟩)) rfl
  clear hd hprev hcase
  obtain ⟨DD, hDD⟩ : ∃ b, dupN (zcx l i) p.nets = b := ⟨_, rfl⟩
  rw [hDD] at hst
  refine zaa<| tx<| wF zbh rfl<| wL U58 rfl<| wP (zbf U58) rfl<| wM rfl<| zab<| zak<| zaN (fun m' st => ∃ j : Nat, m' + j = p.nets.length ∧ ∃ X : List NtP, X.length = (zcx l i).length + j ∧ DD = dupN X (p.nets.drop j) ∧ X = zcx l i ++ p.nets.take j ∧ st = St.of [(1, .ref 1 0), (4, .row 100), (32, .p (.sl l.length 5 L)), (33, .p (.v (.int .i64 l.length))), (34, .p (.v (.int .i64 i))), (66, .p (.sl p.nets.length 2 (p.nets.flatMap ntC))), (67, .p (.v (.int .i64 p.nets.length))), (68, .p (.v (.int .i64 j)))] [(1, .box 24 (cfC key port l.length L)), (100, .row 27 2 ((zcx l i).length + j) (X.flatMap ntC))]) p.nets.length ?_ ?_
  ·refine ⟨_, zaJ id _ _ ?_ ?_ rfl, 0, by omega, zcx l i, by omega, by rw [List.drop_zero]; exact hDD.symm, by simp, rfl⟩
   ·(repeat (first | exact trivial | (refine ⟨⟨(by first | rfl | (simp; done) | (simp; omega)), rfl⟩, ?_⟩)))
   ·exact ⟨⟨rfl, rfl⟩, ⟨rfl, rfl⟩, trivial⟩
  rintro m' st ⟨j, hj, X, hX, hdp, hXe, rfl⟩
  refine zaa<| tx<| wP za8 rfl<| zab<| zaa<| zaq _ rfl (fun h => ?_) (fun h => ?_)
  ·have hlj : j < p.nets.length := by simp at h; omega
   clear h
   obtain ⟨q, hq⟩ : ∃ q, p.nets[j]? = some q := ⟨p.nets[j], List.getElem?_eq_getElem hlj⟩
   have hch2 := zaX (f := ntC) (k := 2) (fun _ => rfl) hq
   have hle2 := zaV (f := ntC) (k := 2) (fun _ => rfl) hlj
   have hdr : p.nets.drop j = q :: p.nets.drop (j + 1) := by
    obtain ⟨q1, q2⟩ := List.getElem?_eq_some_iff.1 hq
    rw [List.drop_eq_getElem_cons q1, q2]
   have htk : p.nets.take (j + 1) = p.nets.take j ++ [q] := by
    obtain ⟨q1, q2⟩ := List.getElem?_eq_some_iff.1 hq
    rw [List.take_succ_eq_append_getElem q1, q2]
   rw [hdr, dupN] at hdp
   obtain ⟨qa, qb⟩ := q
   have hCt := containsN_s X qa qb ((zcx l i).length + j) hX qO
   have hps := nt_push X qa qb
   have hxl : (X.flatMap ntC).length = ((zcx l i).length + j) * 2 := by rw [zaW (k := 2) (fun _ => rfl), hX]
   generalize hNL : p.nets.flatMap ntC = NL at *
   generalize hXF : X.flatMap ntC = XF at *
   refine zae<| zaa<| zak<| zaa<| tx<| wP (zaA U58 sz27 qO qO rfl) rfl<| wP (zaS U27 rfl sz27 (by first | omega | (simp; done) | (simp; omega)) (hch2)) rfl ?_
   refine wG (zaF 9 zr27 rfl) rfl<| wG (zar (Y := .agg [.p (.v (.int .u32 qa)), .p (.v (.int .i64 qb))]) sz27 rfl rfl (Nat.eq_of_beq_eq_true rfl)) rfl<| zab ?_
   by_cases hm : (qa, qb) ∈ X
   ·rw [show (decide ((qa, qb) ∈ X) || dupN (X ++ [(qa, qb)]) (p.nets.drop (j + 1))) = true by simp [hm]] at hdp
    rw [if_pos hdp] at hst
    rw [hhit (by rw [hst]; decide), hst] at hE
    subst hE
    rw [decide_eq_true hm] at hCt
    refine zaa<| zaa<| tx<| wP (zam (r := .row _)) rfl<| wN U27 sz27 rfl ?_
    refine yV (fun n => 74 + 1000 * n) (hCt) func43 ?_
    refine zab<| zaf<| zax rfl<| zaa<| tx<| wA rfl<| zab ?_
    (repeat (first | refine zaa ?_ | refine zak ?_ | refine zae ?_ | refine zai ?_ | refine zaI ?_ | refine zaf ?_ | refine zau ?_ | refine zb3 ?_ | refine zbb ?_ | refine zaU ?_ | refine zda ?_ | refine inb_y rfl ?_))
    refine yT ?_ ?_
    ·exact rfl
    ·exact trivial
   ·rw [show (decide ((qa, qb) ∈ X) || dupN (X ++ [(qa, qb)]) (p.nets.drop (j + 1))) = dupN (X ++ [(qa, qb)]) (p.nets.drop (j + 1)) by simp [hm]] at hdp
    rw [decide_eq_false hm] at hCt
    refine zaa<| zaa<| tx<| wP (zam (r := .row _)) rfl<| wN U27 sz27 rfl ?_
    refine yV (fun n => 74 + 1000 * n) (hCt) func43 ?_
    refine zab<| zaf<| zag rfl<| zae<| zaf<| tx<| wP (zam (r := .row _)) rfl<| wN U27 sz27 rfl ?_
    refine wG (zaO 77 U58 sz27 zc27 (qE rfl) (qE rfl) rfl rfl rfl rfl (qE rfl)) rfl<| zah (zbe 78 U58 eo27 (zb5) (by simp only [maxLen]; omega) (by omega) rfl rfl) rfl rfl ⟨rfl, rfl, rfl, trivial⟩ ?_
    refine wP (zas (r := .row _)) rfl<| zab<| zbb<| zaf<| tx<| wP (za5 (by first | exact IntWalk.i64_in _ (by omega) | rfl)) rfl ?_
    refine wM rfl<| zab<| zaf ?_
    refine ⟨m' - 1, by omega, _, zaJ (fun o => bif Nat.beq o 100 then 78 else o) _ _ ?_ ?_ rfl, j + 1, by omega, X ++ [(qa, qb)], by rw [List.length_append, hX]; rfl, hdp, by rw [htk, ← List.append_assoc, hXe], rfl⟩
    ·(repeat (first | exact trivial | (refine ⟨⟨(by first | rfl | (simp; done) | (simp; omega)), rfl⟩, ?_⟩)))
    ·exact ⟨⟨rfl, rfl⟩, ⟨by rw [← hps]; rfl, rfl⟩, trivial⟩
  have hge : j = p.nets.length := by simp at h; omega
  clear h
  subst hge
  rw [List.take_length] at hXe
  have hz : dupN X (p.nets.drop p.nets.length) = false := by rw [List.drop_length]; rfl
  rw [hz] at hdp
  rw [if_neg (by rw [hdp]; decide)] at hst
  refine zaI<| zb3<| zb3<| zda<| zbb<| zaf<| tx<| wP (za5 (by first | exact IntWalk.i64_in _ (by omega) | rfl)) rfl ?_
  refine wM rfl<| zab<| zaf<| ⟨m - 1, qO, _, zaJ id _ _ ?_ ?_ rfl, i + 1, qO, fun q hq => ?_, rfl⟩
  ·(repeat (first | exact trivial | (refine ⟨⟨(by first | rfl | (simp; done) | (simp; omega)), rfl⟩, ?_⟩)))
  ·refine ⟨⟨rfl, rfl⟩, ⟨?_, rfl⟩, trivial⟩
   rw [hnx, List.length_append, ← hXe]
   rfl
  ·by_cases eq : q = i
   ·rw [eq]; exact hst
   ·exact hf q qO
 have hge : i = l.length := by simp at h; omega
 clear h
 subst hge
 rw [zf6 hf] at hE
 subst hE
 refine zaI<| zaa<| tx<| wA rfl<| zab<| zai<| yT ?_ ?_
 ·exact rfl
 ·exact trivial
end Go.Proofs.YtkdfdcodkeclmaaGreatDoor
