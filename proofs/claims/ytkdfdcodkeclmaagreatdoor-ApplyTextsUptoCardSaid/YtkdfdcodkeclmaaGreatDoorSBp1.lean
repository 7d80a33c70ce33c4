/- batch.Parse, the reference's BatchOf, over data. -/
import Derived.Test.YtkdfdcodkeclmaaGreatDoorSBt7
import Derived.Test.YtkdfdcodkeclmaaGreatDoorSLs
namespace Go.Proofs.YtkdfdcodkeclmaaGreatDoor
open Tryz
open Go.RowKit Go.Sort
set_option linter.unusedVariables false
set_option linter.unusedSimpArgs false
set_option maxRecDepth 100000
noncomputable def rdE (p : LnP) : Int := if kd p.1 = 0 then 2 else if isL (bc (kd p.1) p.2) p.1 p.2 then 0 else 3
noncomputable def rdS (p : LnP) : SE := if kd p.1 = 0 then SE0 else if isL (bc (kd p.1) p.2) p.1 p.2 then bc (kd p.1) p.2 else SE0
theorem rdR_eq (p : LnP) : rdR p.1 p.2 = rdO (rdS p) (rdE p) := by
 unfold rdR rdS rdE
 split
 ·rfl
 ·split <;> rfl
def bdA (f : LnP → Int) : List LnP → Nat → Option (Int × Int)
 | [], _ => none
 | t :: l, i => if f t ≠ 0 then some ((i : Int) + 1, f t) else bdA f l (i + 1)
theorem bdA_hit {f : LnP → Int} {t : LnP} : ∀ {l : List LnP} {i k : Nat}, l[i]? = some t → (∀ q ∈ l.take i, f q = 0) → f t ≠ 0 → bdA f l k = some (((k + i : Nat) : Int) + 1, f t)
 | [], i, k, h, _, _ => by simp at h
 | a :: l, 0, k, h, _, ht => by
  simp at h; subst h
  unfold bdA
  rw [if_pos ht]; rfl
 | a :: l, i + 1, k, h, hf, ht => by
  have h0 := hf a (by simp)
  unfold bdA
  rw [if_neg (by simp [h0]), bdA_hit (i := i) (k := k + 1) (by simpa using h) (fun q hq => hf q (by simp [hq])) ht]
  congr 3; omega
theorem bdA_ok {f : LnP → Int} : ∀ {l : List LnP} {k : Nat}, (∀ q ∈ l, f q = 0) → bdA f l k = none
 | [], _, _ => rfl
 | a :: l, k, h => by
  unfold bdA
  rw [if_neg (by simp [h a (by simp)]), bdA_ok fun q hq => h q (by simp [hq])]
theorem takeL_ok {f : LnP → Int} {l : List LnP} {i : Nat} {p : LnP} (hi : l[i]? = some p) (hf : ∀ q ∈ l.take i, f q = 0) (hp : f p = 0) : ∀ q ∈ l.take (i + 1), f q = 0 := by
 obtain ⟨h1, h2⟩ := List.getElem?_eq_some_iff.1 hi
 rw [List.take_succ_eq_append_getElem h1, h2]
 intro q hq
 rcases List.mem_append.1 hq with h | h
 ·exact hf q h
 ·have : q = p := by simpa using h
  rw [this]; exact hp
theorem zgb {l : List LnP} {i : Nat} {p : LnP} (hi : l[i]? = some p) : ((l.take (i + 1)).map rdS).flatMap SE.pv = ((l.take i).map rdS).flatMap SE.pv ++ (rdS p).pv := by
 obtain ⟨h1, h2⟩ := List.getElem?_eq_some_iff.1 hi
 rw [List.take_succ_eq_append_getElem h1, h2, List.map_append, List.flatMap_append]
 simp
noncomputable def bpO (s : ByteArray) : Option (Int × Int) := match spO s with
 | some (n, e) => some (if e = 0 then (0, 0) else (n, e))
 | none => bdA rdE ((spl s 10).map lnOf) 0
def bpN (l : List SE) : Option (Int × Int) → List (Nat × AObj)
 | some _ => []
 | none => [(0, .row 29 5 l.length (l.flatMap SE.pv))]
theorem zgy {s : ByteArray} (h : spO s = none) : s.size ≤ 3000 ∧ cntB s 10 ≤ 59 := by
 unfold spO at h
 split at h
 ·cases h
 split at h
 ·cases h
 split at h
 ·cases h
 ·omega
theorem zgT {s : ByteArray} (h : s.size ≤ 3000) : ∀ p ∈ (spl s 10).map lnOf, p.2.size ≤ 3000 := by
 intro p hp
 obtain ⟨t, ht, rfl⟩ := List.mem_map.1 hp
 have h1 := zd5 s 10 t ht
 have h2 := zcx t 61
 show (cutZ t 61).size ≤ 3000
 omega
set_option maxHeartbeats 4000000 in
theorem bparse_s (s : ByteArray) : Fn prog 39 [.p (.v (.string s))] (spR (bpO s)) (bpN (((spl s 10).map lnOf).map rdS) (bpO s)) := by
 obtain ⟨o, hO⟩ : ∃ o, bpO s = o := ⟨_, rfl⟩
 rw [hO]
 unfold bpO at hO
 have p1 := lsplit_s s
 have hl0 := @zgy s
 have hl1 := @zgT s
 have hlen : ((spl s 10).map lnOf).length = cntB s 10 + 1 := by rw [List.length_map, zb5]
 generalize (spl s 10).map lnOf = l at *
 generalize cntB s 10 = N at *
 generalize spO s = sp at *
 cases sp with
 | some x =>
  obtain ⟨n, e⟩ := x
  simp only [spR, spN] at p1
  refine fnI fun w0 A => ?_
  refine G [9] ?_
  refine cV p1 ?_
  refine G [14, 9, 0] ?_
  refine zab _ rfl (fun h => ?_) (fun h => ?_)
  ·have h1 : e ≠ 0 := by simpa using h
   dsimp only at hO
   rw [if_neg h1] at hO
   subst hO
   refine G [9, 9, 0] ?_
   exact yE
  have h1 : e = 0 := by simpa using h
  clear h
  subst h1
  dsimp only at hO
  rw [if_pos rfl] at hO
  subst hO
  refine G [9] ?_
  refine zaa (a_lenNil U92) rfl rfl ?_
  refine G [3] ?_
  refine zal (fun m st => st = St.of [(8, .p (.v (.slice none 0 0))), (24, .p (.v (.int .i64 0))), (25, .p (.v (.int .i64 0)))] []) 0 ?_ ?_
  ·refine ⟨_, zak id _ _ ?_ ?_ rfl, rfl⟩
   ·(repeat (first | exact trivial | (refine ⟨⟨(by first | rfl | (simp; done) | (simp; omega)), rfl⟩, ?_⟩)))
   ·exact trivial
  rintro m st rfl
  refine G [5] ?_
  refine zab _ rfl (fun h => ?_) (fun h => ?_)
  ·cases h
  refine G [9, 9, 0] ?_
  exact yE
 | none =>
  obtain ⟨hs, hN⟩ := hl0 rfl
  have hl1 := hl1 hs
  simp only [spR, spN] at p1
  dsimp only at hO
  refine fnI fun w0 A => ?_
  refine G [9] ?_
  refine zaw (fun _ => 15) (p1) rfl rfl func62 rfl rfl (by first | rfl | simp [AV.okInL, AV.okIn, zaj]) rfl rfl rfl (by first | exact trivial | exact ⟨rfl, trivial⟩ | exact ⟨rfl, rfl, trivial⟩ | exact ⟨rfl, rfl, rfl, rfl, rfl, trivial⟩) rfl rfl rfl ?_
  refine G [8] ?_
  refine zba (zfA (cs := l.flatMap lnC) 15 rfl) ?_
  refine G [4, 1, 1, 9, 0] ?_
  refine zab _ rfl (fun h => ?_) (fun h => ?_)
  ·cases h
  refine G [5, 9, 0] ?_
  refine zaM (zb8 8 100 29 5 rfl rfl) ?_
  refine G [4] ?_
  refine zaa (zaL U92) rfl rfl ?_
  refine G [3] ?_
  refine zal (fun m st => ∃ i : Nat, m + i = l.length ∧ (∀ q ∈ l.take i, rdE q = 0) ∧ st = St.of [(8, .row 100), (23, .p (.sl l.length 2 (l.flatMap lnC))), (24, .p (.v (.int .i64 l.length))), (25, .p (.v (.int .i64 i)))] [(100, .row 29 5 i (((l.take i).map rdS).flatMap SE.pv))]) l.length ?_ ?_
  ·refine ⟨_, zak id _ _ ?_ ?_ rfl, 0, by omega, by simp, rfl⟩
   ·(repeat (first | exact trivial | (refine ⟨⟨(by first | rfl | (simp; done) | (simp; omega)), rfl⟩, ?_⟩)))
   ·exact ⟨⟨rfl, rfl⟩, trivial⟩
  rintro m st ⟨i, hi, hf, rfl⟩
  refine G [5] ?_
  refine zab _ rfl (fun h => ?_) (fun h => ?_)
  ·have hlt : i < l.length := by simp at h; omega
   clear h
   obtain ⟨p, hp⟩ : ∃ p, l[i]? = some p := ⟨l[i], List.getElem?_eq_getElem hlt⟩
   have hch := zav (f := lnC) (k := 2) (fun _ => rfl) hp
   have hle := zau (f := lnC) (k := 2) (fun _ => rfl) hlt
   have hpz := hl1 p (List.mem_of_getElem? hp)
   have hbad := @bdA_hit rdE p l i 0 hp hf
   have hok := takeL_ok hp hf
   have hnx := zgb hp
   have hC := read_s p.1 p.2 (by omega)
   rw [rdR_eq] at hC
   have hil : (((l.take i).map rdS).flatMap SE.pv).length = i * 5 := by rw [zat (k := 5) (fun _ => rfl), List.length_map, List.length_take, Nat.min_eq_left (by omega)]
   rw [Nat.zero_add] at hbad
   generalize rdE p = e at *
   generalize rdS p = r at *
   generalize ((l.take i).map rdS).flatMap SE.pv = T at *
   generalize hLL : l.flatMap lnC = L at *
   obtain ⟨k, v⟩ := p
   obtain ⟨rk, rt, rn, ra, rb⟩ := r
   change Fn prog _ [.agg [.p (.v (.string k)), .p (.v (.string v))]] (.tup [.agg [.p (.v (.int .i64 rk)), .p (.v (.string rt)), .p (.v (.int .i64 rn)), .p (.v (.int .u32 ra)), .p (.v (.int .i64 rb))], .p (.v (.int .i64 e))]) _ at hC
   refine G [6] ?_
   refine zaa (zad U92 sz96 (by omega) (by omega) rfl) rfl rfl ?_
   refine zaa (zaq U96 rfl sz96 (by first | omega | (simp; done) | (simp; omega)) (hch)) rfl rfl ?_
   refine G [2] ?_
   refine zac (zap (Y := .agg [.p (.v (.string k)), .p (.v (.string v))]) sz96 rfl rfl (Nat.eq_of_beq_eq_true rfl)) rfl rfl ⟨rfl, trivial⟩ ?_
   refine G [4] ?_
   refine cV hC ?_
   refine G [13, 9, 0] ?_
   refine zab _ rfl (fun h => ?_) (fun h => ?_)
   ·have h5 : e ≠ 0 := by simpa using h
    rw [hbad h5] at hO
    subst hO
    refine G [3] ?_
    refine zaa (zas (by first | exact IntWalk.i64_in _ (by omega) | rfl)) rfl rfl ?_
    refine G [6, 9, 0] ?_
    exact yE
   have h5 : e = 0 := by simpa using h
   clear h
   refine G [4] ?_
   refine zac (zan 42 U35 sz29 zc29 (Nat.le_of_ble_eq_true rfl) (Nat.le_of_ble_eq_true rfl) rfl rfl rfl rfl (Nat.le_of_ble_eq_true rfl)) rfl rfl ⟨rfl, trivial⟩ ?_
   refine zac (zaF 43 U35 eo29 (zbl) (by simp only [maxLen]; omega) (by omega) rfl rfl) rfl rfl ⟨rfl, rfl, rfl, trivial⟩ ?_
   refine G [3] ?_
   refine zaa (zas (by first | exact IntWalk.i64_in _ (by omega) | rfl)) rfl rfl ?_
   refine G [2, 9, 0] ?_
   refine ⟨m - 1, by omega, _, zak (fun _ => 43) _ _ ?_ ?_ rfl, i + 1, by omega, hok h5, rfl⟩
   ·(repeat (first | exact trivial | (refine ⟨⟨(by first | rfl | (simp; done) | (simp; omega)), rfl⟩, ?_⟩)))
   ·exact ⟨⟨by rw [hnx]; rfl, rfl⟩, trivial⟩
  have hge : i = l.length := by simp at h; omega
  clear h
  subst hge
  rw [List.take_length] at hf ⊢
  rw [bdA_ok hf] at hO
  subst hO
  rw [show bpN (l.map rdS) none = [(0, .row 29 5 l.length ((l.map rdS).flatMap SE.pv))] by simp only [bpN, List.length_map]]
  refine G [9, 9, 0] ?_
  refine yT (fun _ => 100) ?_ ?_
  ·exact rfl
  ·exact ⟨⟨rfl, rfl⟩, trivial⟩
set_option maxHeartbeats 4000000 in
theorem refBatch_s (s : ByteArray) : Fn prog 40 [.p (.v (.string s))] (spR (bpO s)) (bpN (((spl s 10).map lnOf).map rdS) (bpO s)) := by
 obtain ⟨o, hO⟩ : ∃ o, bpO s = o := ⟨_, rfl⟩
 rw [hO]
 unfold bpO at hO
 have p1 := refLOf_s s
 have hl0 := @zgy s
 have hl1 := @zgT s
 have hlen : ((spl s 10).map lnOf).length = cntB s 10 + 1 := by rw [List.length_map, zb5]
 generalize (spl s 10).map lnOf = l at *
 generalize cntB s 10 = N at *
 generalize spO s = sp at *
 cases sp with
 | some x =>
  obtain ⟨n, e⟩ := x
  simp only [spR, spN] at p1
  refine fnI fun w0 A => ?_
  refine G [9] ?_
  refine cV p1 ?_
  refine G [14, 9, 0] ?_
  refine zab _ rfl (fun h => ?_) (fun h => ?_)
  ·have h1 : e ≠ 0 := by simpa using h
   dsimp only at hO
   rw [if_neg h1] at hO
   subst hO
   refine G [9, 9, 0] ?_
   exact yE
  have h1 : e = 0 := by simpa using h
  clear h
  subst h1
  dsimp only at hO
  rw [if_pos rfl] at hO
  subst hO
  refine G [11] ?_
  refine zal (fun m st => st = St.of [(5, .p (.v (.slice none 0 0))), (8, .p (.v (.slice none 0 0))), (9, .p (.v (.int .i64 0)))] []) 0 ?_ ?_
  ·refine ⟨_, zak id _ _ ?_ ?_ rfl, rfl⟩
   ·(repeat (first | exact trivial | (refine ⟨⟨(by first | rfl | (simp; done) | (simp; omega)), rfl⟩, ?_⟩)))
   ·exact trivial
  rintro m st rfl
  refine G [5] ?_
  refine zaa (a_lenNil U92) rfl rfl ?_
  refine G [2, 9, 0] ?_
  refine zab _ rfl (fun h => ?_) (fun h => ?_)
  ·cases h
  refine G [9, 9, 0] ?_
  exact yE
 | none =>
  obtain ⟨hs, hN⟩ := hl0 rfl
  have hl1 := hl1 hs
  simp only [spR, spN] at p1
  dsimp only at hO
  refine fnI fun w0 A => ?_
  refine G [9] ?_
  refine zaw (fun _ => 14) (p1) rfl rfl func64 rfl rfl (by first | rfl | simp [AV.okInL, AV.okIn, zaj]) rfl rfl rfl (by first | exact trivial | exact ⟨rfl, trivial⟩ | exact ⟨rfl, rfl, trivial⟩ | exact ⟨rfl, rfl, rfl, rfl, rfl, trivial⟩) rfl rfl rfl ?_
  refine G [8] ?_
  refine zba (zfA (cs := l.flatMap lnC) 14 rfl) ?_
  refine G [4, 1, 1, 9, 0] ?_
  refine zab _ rfl (fun h => ?_) (fun h => ?_)
  ·cases h
  refine G [5, 9, 0] ?_
  refine zaM (zb8 8 100 29 5 rfl rfl) ?_
  refine G [6] ?_
  refine zal (fun m st => ∃ i : Nat, m + i = l.length ∧ (∀ q ∈ l.take i, rdE q = 0) ∧ st = St.of [(5, .p (.sl l.length 2 (l.flatMap lnC))), (8, .row 100), (9, .p (.v (.int .i64 i)))] [(100, .row 29 5 i (((l.take i).map rdS).flatMap SE.pv))]) l.length ?_ ?_
  ·refine ⟨_, zak id _ _ ?_ ?_ rfl, 0, by omega, by simp, rfl⟩
   ·(repeat (first | exact trivial | (refine ⟨⟨(by first | rfl | (simp; done) | (simp; omega)), rfl⟩, ?_⟩)))
   ·exact ⟨⟨rfl, rfl⟩, trivial⟩
  rintro m st ⟨i, hi, hf, rfl⟩
  refine G [5] ?_
  refine zaa (zaL U92) rfl rfl ?_
  refine G [2, 9, 0] ?_
  refine zab _ rfl (fun h => ?_) (fun h => ?_)
  ·have hlt : i < l.length := by simp at h; omega
   clear h
   obtain ⟨p, hp⟩ : ∃ p, l[i]? = some p := ⟨l[i], List.getElem?_eq_getElem hlt⟩
   have hch := zav (f := lnC) (k := 2) (fun _ => rfl) hp
   have hle := zau (f := lnC) (k := 2) (fun _ => rfl) hlt
   have hpz := hl1 p (List.mem_of_getElem? hp)
   have hbad := @bdA_hit rdE p l i 0 hp hf
   have hok := takeL_ok hp hf
   have hnx := zgb hp
   have hC := refRead_s p.1 p.2 (by omega)
   rw [rdR_eq] at hC
   have hil : (((l.take i).map rdS).flatMap SE.pv).length = i * 5 := by rw [zat (k := 5) (fun _ => rfl), List.length_map, List.length_take, Nat.min_eq_left (by omega)]
   rw [Nat.zero_add] at hbad
   generalize rdE p = e at *
   generalize rdS p = r at *
   generalize ((l.take i).map rdS).flatMap SE.pv = T at *
   generalize hLL : l.flatMap lnC = L at *
   obtain ⟨k, v⟩ := p
   obtain ⟨rk, rt, rn, ra, rb⟩ := r
   change Fn prog _ [.agg [.p (.v (.string k)), .p (.v (.string v))]] (.tup [.agg [.p (.v (.int .i64 rk)), .p (.v (.string rt)), .p (.v (.int .i64 rn)), .p (.v (.int .u32 ra)), .p (.v (.int .i64 rb))], .p (.v (.int .i64 e))]) _ at hC
   refine G [7] ?_
   refine zaa (zad U92 sz96 (by omega) (by omega) rfl) rfl rfl ?_
   refine zaa (zaq U96 rfl sz96 (by first | omega | (simp; done) | (simp; omega)) (hch)) rfl rfl ?_
   refine cV hC ?_
   refine G [13, 9, 0] ?_
   refine zab _ rfl (fun h => ?_) (fun h => ?_)
   ·have h5 : e ≠ 0 := by simpa using h
    rw [hbad h5] at hO
    subst hO
    refine G [3] ?_
    refine zaa (zas (by first | exact IntWalk.i64_in _ (by omega) | rfl)) rfl rfl ?_
    refine G [6, 9, 0] ?_
    exact yE
   have h5 : e = 0 := by simpa using h
   clear h
   refine G [4] ?_
   refine zac (zan 43 U35 sz29 zc29 (Nat.le_of_ble_eq_true rfl) (Nat.le_of_ble_eq_true rfl) rfl rfl rfl rfl (Nat.le_of_ble_eq_true rfl)) rfl rfl ⟨rfl, trivial⟩ ?_
   refine zac (zaF 44 U35 eo29 (zbl) (by simp only [maxLen]; omega) (by omega) rfl rfl) rfl rfl ⟨rfl, rfl, rfl, trivial⟩ ?_
   refine G [4] ?_
   refine zaa (zas (by first | exact IntWalk.i64_in _ (by omega) | rfl)) rfl rfl ?_
   refine G [2, 9, 0] ?_
   refine ⟨m - 1, by omega, _, zak (fun _ => 44) _ _ ?_ ?_ rfl, i + 1, by omega, hok h5, rfl⟩
   ·(repeat (first | exact trivial | (refine ⟨⟨(by first | rfl | (simp; done) | (simp; omega)), rfl⟩, ?_⟩)))
   ·exact ⟨⟨by rw [hnx]; rfl, rfl⟩, trivial⟩
  have hge : i = l.length := by simp at h; omega
  clear h
  subst hge
  rw [List.take_length] at hf ⊢
  rw [bdA_ok hf] at hO
  subst hO
  rw [show bpN (l.map rdS) none = [(0, .row 29 5 l.length ((l.map rdS).flatMap SE.pv))] by simp only [bpN, List.length_map]]
  refine G [9, 9, 0] ?_
  refine yT (fun _ => 100) ?_ ?_
  ·exact rfl
  ·exact ⟨⟨rfl, rfl⟩, trivial⟩
end Go.Proofs.YtkdfdcodkeclmaaGreatDoor
