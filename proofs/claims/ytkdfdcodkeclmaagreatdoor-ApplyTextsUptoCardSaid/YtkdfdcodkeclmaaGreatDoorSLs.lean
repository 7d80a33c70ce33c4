/- line.Split, the reference's LinesOf, equality of lines, over data. -/
import Derived.Test.YtkdfdcodkeclmaaGreatDoorSLn1
import Derived.Test.YtkdfdcodkeclmaaGreatDoorSSq
namespace Go.Proofs.YtkdfdcodkeclmaaGreatDoor
open Tryz
open Go.RowKit Go.Sort
set_option linter.unusedVariables false
set_option linter.unusedSimpArgs false
set_option maxRecDepth 100000
def pcE (t : ByteArray) : Int := if 0 ≤ ixB t 61 then zgJ (cutA t 61) (cutZ t 61) else 3
def lnOf (t : ByteArray) : LnP := (cutA t 61, cutZ t 61)
def badAt : List ByteArray → Nat → Option (Int × Int)
 | [], _ => none
 | t :: l, i => if pcE t ≠ 0 then some ((i : Int) + 1, pcE t) else badAt l (i + 1)
theorem zf0 {t : ByteArray} : ∀ {l : List ByteArray} {i k : Nat}, l[i]? = some t → (∀ q ∈ l.take i, pcE q = 0) → pcE t ≠ 0 → badAt l k = some (((k + i : Nat) : Int) + 1, pcE t)
 | [], i, k, h, _, _ => by simp at h
 | a :: l, 0, k, h, _, ht => by
  simp at h; subst h
  unfold badAt
  rw [if_pos ht]; rfl
 | a :: l, i + 1, k, h, hf, ht => by
  have h0 := hf a (by simp)
  unfold badAt
  rw [if_neg (by simp [h0]), zf0 (i := i) (k := k + 1) (by simpa using h) (fun q hq => hf q (by simp [hq])) ht]
  congr 3; omega
theorem zgV : ∀ {l : List ByteArray} {k : Nat}, (∀ q ∈ l, pcE q = 0) → badAt l k = none
 | [], _, _ => rfl
 | a :: l, k, h => by
  unfold badAt
  rw [if_neg (by simp [h a (by simp)]), zgV fun q hq => h q (by simp [hq])]
theorem takeB_ok {l : List ByteArray} {i : Nat} {p : ByteArray} (hi : l[i]? = some p) (hf : ∀ q ∈ l.take i, pcE q = 0) (hp : pcE p = 0) : ∀ q ∈ l.take (i + 1), pcE q = 0 := by
 obtain ⟨h1, h2⟩ := List.getElem?_eq_some_iff.1 hi
 intro q hq
 rw [List.take_succ_eq_append_getElem h1, h2] at hq
 rcases List.mem_append.1 hq with hq | hq
 ·exact hf q hq
 ·have : q = p := by simpa using hq
  rw [this]; exact hp
theorem zgc {l : List ByteArray} {i : Nat} {p : ByteArray} (hi : l[i]? = some p) : ((l.take (i + 1)).map lnOf).flatMap lnC = ((l.take i).map lnOf).flatMap lnC ++ [.v (.string (cutA p 61)), .v (.string (cutZ p 61))] := by
 obtain ⟨h1, h2⟩ := List.getElem?_eq_some_iff.1 hi
 rw [List.take_succ_eq_append_getElem h1, h2, List.map_append, List.flatMap_append]
 rfl
def spO (s : ByteArray) : Option (Int × Int) := if 3000 < s.size then some (0, 1) else if s = ⟨#[]⟩ then some (0, 0) else if 59 < cntB s 10 then some (0, 1) else badAt (spl s 10) 0
def spR : Option (Int × Int) → AV
 | some (n, e) => .tup [.p (.v (.slice none 0 0)), .p (.v (.int .i64 n)), .p (.v (.int .i64 e))]
 | none => .tup [.row 0, .p (.v (.int .i64 0)), .p (.v (.int .i64 0))]
def spN (l : List LnP) : Option (Int × Int) → List (Nat × AObj)
 | some _ => []
 | none => [(0, .row 96 2 l.length (l.flatMap lnC))]
set_option maxHeartbeats 4000000 in
theorem lsplit_s (s : ByteArray) : Fn prog 62 [.p (.v (.string s))] (spR (spO s)) (spN ((spl s 10).map lnOf) (spO s)) := by
 obtain ⟨o, hO⟩ : ∃ o, spO s = o := ⟨_, rfl⟩
 rw [hO]
 unfold spO at hO
 refine fnI fun w0 A => ?_
 refine G [10] ?_
 refine zaa (zaQ U9) rfl rfl ?_
 refine G [2, 9, 0] ?_
 refine zab _ rfl (fun h => ?_) (fun h => ?_)
 ·have h1 : 3000 < s.size := by simp at h; omega
  rw [if_pos h1] at hO
  subst hO
  refine G [7, 9, 0] ?_
  exact yE
 have h1 : ¬ 3000 < s.size := by simp at h; omega
 clear h
 rw [if_neg h1] at hO
 refine G [7, 9, 0] ?_
 refine zab _ rfl (fun h => ?_) (fun h => ?_)
 ·have h2 : s = ⟨#[]⟩ := by simpa using h
  rw [if_pos h2] at hO
  subst hO
  refine G [7, 9, 0] ?_
  exact yE
 have h2 : s ≠ ⟨#[]⟩ := by simpa using h
 clear h
 rw [if_neg h2] at hO
 have hSp := zfd s 10 (by omega)
 have hlen := zb5 s 10
 have hsz := zd5 s 10
 have hcl := zgR s 10
 generalize spl s 10 = ps at *
 generalize cntB s 10 = N at *
 refine G [4] ?_
 refine zcq (fun n => 20 + 1000 * n) (hSp) rfl rfl func94 rfl rfl (by first | rfl | simp [AV.noSl, AV.noSlL, AObj.noSl, PV.isV, strs]) (by first | rfl | simp [AV.noSl, AV.noSlL, AObj.noSl, PV.isV, strs]) rfl rfl rfl (by first | exact trivial | exact ⟨rfl, trivial⟩ | exact ⟨rfl, rfl, trivial⟩ | exact ⟨rfl, rfl, rfl, rfl, rfl, trivial⟩) rfl rfl rfl ?_
 refine G [6] ?_
 refine zac (zaG U89) rfl rfl ⟨rfl, trivial⟩ ?_
 refine G [2, 9, 0] ?_
 refine zab _ rfl (fun h => ?_) (fun h => ?_)
 ·have h3 : 59 < N := by simp at h; omega
  rw [if_pos h3] at hO
  subst hO
  refine G [7, 9, 0] ?_
  exact yE
 have h3 : ¬ 59 < N := by simp at h; omega
 clear h
 rw [if_neg h3] at hO
 refine G [9] ?_
 refine zac (zaG U89) rfl rfl ⟨rfl, trivial⟩ ?_
 refine G [2, 9, 0] ?_
 refine zaM (zb8 6 100 96 2 rfl rfl) ?_
 refine zaS ?_
 refine zal (fun m st => ∃ i : Nat, m + i = N + 1 ∧ (∀ q ∈ ps.take i, pcE q = 0) ∧ st = St.of [(6, .row 100), (24, .row 20), (25, .p (.v (.int .i64 (N + 1 : Nat)))), (26, .p (.v (.int .i64 i)))] [(20, .row 9 1 (N + 1) (strs ps)), (100, .row 96 2 i (((ps.take i).map lnOf).flatMap lnC))]) (N + 1) ?_ ?_
 ·refine ⟨_, zak id _ _ ?_ ?_ rfl, 0, by omega, by simp, rfl⟩
  ·(repeat (first | exact trivial | (refine ⟨⟨(by first | rfl | (simp; done) | (simp; omega)), rfl⟩, ?_⟩)))
  ·exact ⟨⟨rfl, rfl⟩, ⟨rfl, rfl⟩, trivial⟩
 rintro m st ⟨i, hi, hf, rfl⟩
 refine G [5] ?_
 refine zab _ rfl (fun h => ?_) (fun h => ?_)
 ·have hlt : i < ps.length := by simp at h; omega
  clear h
  obtain ⟨p, hp⟩ : ∃ p, ps[i]? = some p := ⟨ps[i], List.getElem?_eq_getElem hlt⟩
  have hat := zfc hp
  have hpz := hsz p (List.mem_of_getElem? hp)
  have hbad := @zf0 p ps i 0 hp hf
  have hok := takeB_ok hp hf
  have hnx := zgc hp
  have hCut := cut1_s p 61 (by omega)
  have hC := lcheck_s (cutA p 61) (cutZ p 61) (by have := zcX p 61; omega) (by have := zcx p 61; omega)
  have hE : pcE p = if 0 ≤ ixB p 61 then zgJ (cutA p 61) (cutZ p 61) else 3 := rfl
  have hsl : (strs ps).length = N + 1 := by rw [zd3, hlen]
  rw [Nat.zero_add] at hbad
  generalize pcE p = pe at *
  generalize zgJ (cutA p 61) (cutZ p 61) = e at *
  generalize cutA p 61 = k at *
  generalize cutZ p 61 = v at *
  generalize ixB p 61 = ix at *
  generalize strs ps = SP at *
  change Fn prog _ [.agg [.p (.v (.string k)), .p (.v (.string v))]] _ _ at hC
  refine G [6] ?_
  refine zac (zai U89 sz9 (by omega) (by omega) (show _ = i by omega)) rfl rfl ⟨rfl, trivial⟩ ?_
  refine zac (zaT U9 rfl hat) rfl rfl ⟨rfl, trivial⟩ ?_
  refine G [6] ?_
  refine cV hCut ?_
  refine G [14, 9, 0] ?_
  refine zab _ rfl (fun h => ?_) (fun h => ?_)
  ·have h4 : ¬ 0 ≤ ix := by simp at h; omega
   rw [if_neg h4] at hE
   rw [hbad (by omega), hE] at hO
   subst hO
   refine G [3] ?_
   refine zaa (zas (by first | exact IntWalk.i64_in _ (by omega) | rfl)) rfl rfl ?_
   refine G [5, 9, 0] ?_
   exact yE
  have h4 : 0 ≤ ix := by simp at h; omega
  clear h
  rw [if_pos h4] at hE
  refine G [13] ?_
  refine cV hC ?_
  refine G [7, 9, 0] ?_
  refine zab _ rfl (fun h => ?_) (fun h => ?_)
  ·have h5 : e ≠ 0 := by simpa using h
   rw [hbad (by omega), hE] at hO
   subst hO
   refine G [3] ?_
   refine zaa (zas (by first | exact IntWalk.i64_in _ (by omega) | rfl)) rfl rfl ?_
   refine G [6, 9, 0] ?_
   exact yE
  have h5 : e = 0 := by simpa using h
  clear h
  refine G [4] ?_
  refine zac (xs := [.agg [.p (.v (.string k)), .p (.v (.string v))]]) (zan (es := [.p (.v (.string k)), .p (.v (.string v))]) (cs := [.v (.string k), .v (.string v)]) 53 U92 sz96 zc96 (Nat.le_of_ble_eq_true rfl) (Nat.le_of_ble_eq_true rfl) rfl (by kernel_rfl) (by kernel_rfl) (by kernel_rfl) (Nat.le_of_ble_eq_true rfl)) (by first | rfl | kernel_rfl) rfl ⟨rfl, trivial⟩ ?_
  refine zac (zaF 54 U92 eo96 (zbl) (by simp only [maxLen]; omega) (by omega) (show _ = i + 1 by omega) hnx.symm) rfl rfl ⟨rfl, rfl, rfl, trivial⟩ ?_
  refine G [3] ?_
  refine zaa (zas (by first | exact IntWalk.i64_in _ (by omega) | rfl)) rfl rfl ?_
  refine G [2, 9, 0] ?_
  refine ⟨m - 1, by omega, _, zak (fun o => bif Nat.beq o 20 then 20 else 54) _ _ ?_ ?_ rfl, i + 1, by omega, hok (by omega), rfl⟩
  ·(repeat (first | exact trivial | (refine ⟨⟨(by first | rfl | (simp; done) | (simp; omega)), rfl⟩, ?_⟩)))
  ·exact ⟨⟨rfl, rfl⟩, ⟨rfl, rfl⟩, trivial⟩
 have hge : i = N + 1 := by simp at h; omega
 clear h
 subst hge
 rw [← hlen, List.take_length] at hf ⊢
 rw [zgV hf] at hO
 subst hO
 rw [show spN (ps.map lnOf) none = [(0, .row 96 2 ps.length ((ps.map lnOf).flatMap lnC))] by simp only [spN, List.length_map]]
 refine G [9, 9, 0] ?_
 refine yT (fun _ => 100) ?_ ?_
 ·exact rfl
 ·exact ⟨⟨rfl, rfl⟩, trivial⟩
set_option maxHeartbeats 4000000 in
theorem refLOf_s (s : ByteArray) : Fn prog 64 [.p (.v (.string s))] (spR (spO s)) (spN ((spl s 10).map lnOf) (spO s)) := by
 obtain ⟨o, hO⟩ : ∃ o, spO s = o := ⟨_, rfl⟩
 rw [hO]
 unfold spO at hO
 have hCn := count1_s s 10
 have hlen := zb5 s 10
 have hsz := zd5 s 10
 have hcl := zgR s 10
 have hSp := zfd s 10
 generalize spl s 10 = ps at *
 generalize cntB s 10 = N at *
 refine fnI fun w0 A => ?_
 refine G [10] ?_
 refine zaa (zaQ U9) rfl rfl ?_
 refine G [3] ?_
 refine mb2 _ rfl rfl (fun _ => zfo func99 rfl rfl (hCn) (by first | rfl | simp [AV.okInL, AV.okIn, zaj]) rfl) (fun _ => trivial) ?_
 refine G [1, 2, 1, 9, 0] ?_
 refine zab _ rfl (fun h => ?_) (fun h => ?_)
 ·have h1 : 3000 < s.size ∨ 59 < N := by simp at h; omega
  by_cases h0 : 3000 < s.size
  ·rw [if_pos h0] at hO
   subst hO
   refine G [7, 9, 0] ?_
   exact yE
  ·rw [if_neg h0] at hO
   have h2 : s ≠ ⟨#[]⟩ := by
    intro e
    have : s.size = 0 := by rw [e]; rfl
    omega
   rw [if_neg h2, if_pos (by omega)] at hO
   subst hO
   refine G [7, 9, 0] ?_
   exact yE
 have h1 : ¬ 3000 < s.size ∧ ¬ 59 < N := by simp at h; omega
 clear h
 obtain ⟨h1, h3⟩ := h1
 rw [if_neg h1] at hO
 refine G [11, 9, 0] ?_
 refine zab _ rfl (fun h => ?_) (fun h => ?_)
 ·have h2 : s = ⟨#[]⟩ := by simpa using h
  rw [if_pos h2] at hO
  subst hO
  refine G [7, 9, 0] ?_
  exact yE
 have h2 : s ≠ ⟨#[]⟩ := by simpa using h
 clear h
 rw [if_neg h2, if_neg h3] at hO
 replace hSp := hSp (by omega)
 refine G [5] ?_
 refine zcq (fun n => 22 + 1000 * n) (hSp) rfl rfl func94 rfl rfl (by first | rfl | simp [AV.noSl, AV.noSlL, AObj.noSl, PV.isV, strs]) (by first | rfl | simp [AV.noSl, AV.noSlL, AObj.noSl, PV.isV, strs]) rfl rfl rfl (by first | exact trivial | exact ⟨rfl, trivial⟩ | exact ⟨rfl, rfl, trivial⟩ | exact ⟨rfl, rfl, rfl, rfl, rfl, trivial⟩) rfl rfl rfl ?_
 refine zac (zaG U89) rfl rfl ⟨rfl, trivial⟩ ?_
 refine G [2, 9, 0] ?_
 refine zaM (zb8 5 100 96 2 rfl rfl) ?_
 refine zaS ?_
 refine zal (fun m st => ∃ i : Nat, m + i = N + 1 ∧ (∀ q ∈ ps.take i, pcE q = 0) ∧ st = St.of [(5, .row 100), (22, .row 22), (23, .p (.v (.int .i64 (N + 1 : Nat)))), (24, .p (.v (.int .i64 i)))] [(22, .row 9 1 (N + 1) (strs ps)), (100, .row 96 2 i (((ps.take i).map lnOf).flatMap lnC))]) (N + 1) ?_ ?_
 ·refine ⟨_, zak id _ _ ?_ ?_ rfl, 0, by omega, by simp, rfl⟩
  ·(repeat (first | exact trivial | (refine ⟨⟨(by first | rfl | (simp; done) | (simp; omega)), rfl⟩, ?_⟩)))
  ·exact ⟨⟨rfl, rfl⟩, ⟨rfl, rfl⟩, trivial⟩
 rintro m st ⟨i, hi, hf, rfl⟩
 refine G [5] ?_
 refine zab _ rfl (fun h => ?_) (fun h => ?_)
 ·have hlt : i < ps.length := by simp at h; omega
  clear h
  obtain ⟨p, hp⟩ : ∃ p, ps[i]? = some p := ⟨ps[i], List.getElem?_eq_getElem hlt⟩
  have hat := zfc hp
  have hpz := hsz p (List.mem_of_getElem? hp)
  have hbad := @zf0 p ps i 0 hp hf
  have hok := takeB_ok hp hf
  have hnx := zgc hp
  have hIx := zgL p 61
  have hC := refLFault_s (cutA p 61) (cutZ p 61) (by have := zcX p 61; omega) (by have := zcx p 61; omega)
  have hE : pcE p = if 0 ≤ ixB p 61 then zgJ (cutA p 61) (cutZ p 61) else 3 := rfl
  have hsl : (strs ps).length = N + 1 := by rw [zd3, hlen]
  have hA : cutA p 61 = if 0 ≤ ixB p 61 then p.extract 0 (ixB p 61).toNat else p := rfl
  have hZ : cutZ p 61 = if 0 ≤ ixB p 61 then p.extract ((ixB p 61).toNat + 1) p.size else ⟨#[]⟩ := rfl
  have hlx := ixB_lt p 61
  rw [Nat.zero_add] at hbad
  generalize pcE p = pe at *
  generalize zgJ (cutA p 61) (cutZ p 61) = e at *
  generalize cutA p 61 = k at *
  generalize cutZ p 61 = v at *
  generalize ixB p 61 = ix at *
  generalize strs ps = SP at *
  change Fn prog _ [.agg [.p (.v (.string k)), .p (.v (.string v))]] _ _ at hC
  refine G [6] ?_
  refine zac (zai U89 sz9 (by omega) (by omega) (show _ = i by omega)) rfl rfl ⟨rfl, trivial⟩ ?_
  refine zac (zaT U9 rfl hat) rfl rfl ⟨rfl, trivial⟩ ?_
  refine G [6] ?_
  refine cV hIx ?_
  refine G [8, 9, 0] ?_
  refine zab _ rfl (fun h => ?_) (fun h => ?_)
  ·have h4 : ¬ 0 ≤ ix := by simp at h; omega
   rw [if_neg h4] at hE
   rw [hbad (by omega), hE] at hO
   subst hO
   refine G [3] ?_
   refine zaa (zas (by first | exact IntWalk.i64_in _ (by omega) | rfl)) rfl rfl ?_
   refine G [5, 9, 0] ?_
   exact yE
  have h4 : 0 ≤ ix := by simp at h; omega
  clear h
  rw [if_pos h4] at hE hA hZ
  obtain ⟨n, rfl⟩ := Int.eq_ofNat_of_zero_le h4
  rw [Int.toNat_natCast] at hA hZ
  subst hA hZ
  refine G [5] ?_
  refine zaa (zbO (L := none) (H := (some (_, _))) U9 rfl ⟨by omega, (show _ = n by omega)⟩ (by omega) (by omega) rfl) rfl rfl ?_
  refine G [2] ?_
  refine zaa (zas (show _ = ((n + 1 : Nat) : Int) by rw [IntKind.wrap_i64]; omega)) rfl rfl ?_
  refine zaa (zbO (L := (some (_, _))) (H := none) U9 ⟨by omega, (show _ = n + 1 by omega)⟩ rfl (by omega) (by omega) rfl) rfl rfl ?_
  refine G [8] ?_
  refine cV hC ?_
  refine G [7, 9, 0] ?_
  refine zab _ rfl (fun h => ?_) (fun h => ?_)
  ·have h5 : e ≠ 0 := by simpa using h
   rw [hbad (by omega), hE] at hO
   subst hO
   refine G [3] ?_
   refine zaa (zas (by first | exact IntWalk.i64_in _ (by omega) | rfl)) rfl rfl ?_
   refine G [6, 9, 0] ?_
   exact yE
  have h5 : e = 0 := by simpa using h
  clear h
  refine G [4] ?_
  refine zac (xs := [.agg [.p (.v (.string (p.extract 0 n))), .p (.v (.string (p.extract (n + 1) p.size)))]]) (zan (es := [.p (.v (.string (p.extract 0 n))), .p (.v (.string (p.extract (n + 1) p.size)))]) (cs := [.v (.string (p.extract 0 n)), .v (.string (p.extract (n + 1) p.size))]) 52 U92 sz96 zc96 (Nat.le_of_ble_eq_true rfl) (Nat.le_of_ble_eq_true rfl) rfl (by kernel_rfl) (by kernel_rfl) (by kernel_rfl) (Nat.le_of_ble_eq_true rfl)) (by first | rfl | kernel_rfl) rfl ⟨rfl, trivial⟩ ?_
  refine zac (zaF 53 U92 eo96 (zbl) (by simp only [maxLen]; omega) (by omega) (show _ = i + 1 by omega) hnx.symm) rfl rfl ⟨rfl, rfl, rfl, trivial⟩ ?_
  refine G [3] ?_
  refine zaa (zas (by first | exact IntWalk.i64_in _ (by omega) | rfl)) rfl rfl ?_
  refine G [2, 9, 0] ?_
  refine ⟨m - 1, by omega, _, zak (fun o => bif Nat.beq o 22 then 22 else 53) _ _ ?_ ?_ rfl, i + 1, by omega, hok (by omega), rfl⟩
  ·(repeat (first | exact trivial | (refine ⟨⟨(by first | rfl | (simp; done) | (simp; omega)), rfl⟩, ?_⟩)))
  ·exact ⟨⟨rfl, rfl⟩, ⟨rfl, rfl⟩, trivial⟩
 have hge : i = N + 1 := by simp at h; omega
 clear h
 subst hge
 rw [← hlen, List.take_length] at hf ⊢
 rw [zgV hf] at hO
 subst hO
 rw [show spN (ps.map lnOf) none = [(0, .row 96 2 ps.length ((ps.map lnOf).flatMap lnC))] by simp only [spN, List.length_map]]
 refine G [9, 9, 0] ?_
 refine yT (fun _ => 100) ?_ ?_
 ·exact rfl
 ·exact ⟨⟨rfl, rfl⟩, trivial⟩
end Go.Proofs.YtkdfdcodkeclmaaGreatDoor
