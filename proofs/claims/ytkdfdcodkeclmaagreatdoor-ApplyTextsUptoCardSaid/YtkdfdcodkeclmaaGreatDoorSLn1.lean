/- line.Check and the reference's LineFault, over data. -/
import Derived.Test.YtkdfdcodkeclmaaGreatDoorSUtZ
namespace Go.Proofs.YtkdfdcodkeclmaaGreatDoor
open Go.RowKit Go.Sort
set_option linter.unusedVariables false
set_option linter.unusedSimpArgs false
set_option maxRecDepth 100000
abbrev LnP := ByteArray × ByteArray
def badK (c : Int) : Bool := (decide (c < 97) || decide (122 < c)) && (c != 95)
def badV (c : Int) : Bool := decide (c ≤ 32) || decide (126 < c)
def anyAt (p : Int → Bool) (s : ByteArray) : Bool := (List.range s.size).any fun i => p (sAt s i)
theorem zdC {p : Int → Bool} {s : ByteArray} {i : Nat} (hi : i < s.size) (h : p (sAt s i) = true) : anyAt p s = true := by
 unfold anyAt; rw [List.any_eq_true]; exact ⟨i, by simpa using hi, h⟩
theorem zdf {p : Int → Bool} {s : ByteArray} (h : ∀ j, j < s.size → p (sAt s j) = false) : anyAt p s = false := by
 unfold anyAt; rw [List.any_eq_false]; intro i hi; rw [h i (by simpa using hi)]; simp
def zgl (k v : ByteArray) : Bool := (decide ((k.size : Int) < 1) || decide (30 < (k.size : Int))) || decide (70 < (v.size : Int))
def zgJ (k v : ByteArray) : Int := if zgl k v = true then 1 else if anyAt badK k = true then 3 else if anyAt badV v = true then 3 else 0
def lnC (p : ByteArray × ByteArray) : List PV := [.v (.string p.1), .v (.string p.2)]
def lnA (k v : ByteArray) : List AV := [.p (.v (.string k)), .p (.v (.string v))]
set_option maxHeartbeats 2000000 in
theorem lcheck_s (k v : ByteArray) (hk : k.size ≤ 140737488351232) (hv : v.size ≤ 140737488351232) : Fn Tryz.prog 95 [.agg (lnA k v)] (.p (.v (.int .i64 (zgJ k v)))) [] := by
 unfold zgJ
 refine fnI fun w0 A => ?_
 refine G [10] ?_
 refine zaa (zaQ U9) rfl rfl ?_
 refine G [4] ?_
 refine mb2 _ rfl rfl (fun hb => (zaQ U9)) (fun _ => trivial) ?_
 refine G [1, 2, 3] ?_
 refine mb2 _ rfl rfl (fun hb => (zaQ U9)) (fun _ => trivial) ?_
 refine G [1, 2, 1, 9, 0] ?_
 refine zab _ rfl (fun h => ?_) (fun h => ?_)
 ·rw [if_pos (show zgl k v = true from h)]
  refine G [5, 9, 0] ?_
  exact yE
 rw [if_neg (show ¬ zgl k v = true by have h' : zgl k v = false := h; simp [h'])]
 clear h
 refine G [6] ?_
 refine zaa (zaQ U9) rfl rfl ?_
 refine G [3] ?_
 refine zal (fun m st => ∃ i : Nat, m + i = k.size ∧ (∀ j, j < i → badK (sAt k j) = false) ∧ st = St.of [(1, .ref 1 0), (25, .p (.v (.int .i64 k.size))), (26, .p (.v (.int .i64 i)))] [(1, .box 96 (lnA k v))]) k.size ?_ ?_
 ·refine ⟨_, zak id _ _ ?_ ?_ rfl, 0, by omega, by omega, rfl⟩
  ·(repeat (first | exact trivial | (refine ⟨⟨(by first | rfl | (simp; done) | (simp; omega)), rfl⟩, ?_⟩)))
  ·exact ⟨⟨rfl, rfl⟩, trivial⟩
 rintro m st ⟨i, hi, hf, rfl⟩
 refine G [5] ?_
 refine zab _ rfl (fun h => ?_) (fun h => ?_)
 ·have hlt : i < k.size := by simp at h; omega
  clear h
  have g1 := zeG hlt
  have hat := @zdC badK k i hlt
  have hb := sAt_B hlt
  generalize hc : sAt k i = c at *
  refine G [13] ?_
  refine zaa (zbD U9 (by omega) (by rw [Int.toNat_natCast]; exact g1)) rfl rfl ?_
  refine G [9, 2, 3, 2, 1, 9, 0] ?_
  refine zab _ rfl (fun h => ?_) (fun h => ?_)
  ·rw [if_pos (hat h)]
   refine G [5, 9, 0] ?_
   exact yE
  ·have h1 : badK c = false := h
   refine G [2] ?_
   refine zaa (zas (by first | exact IntWalk.i64_in _ (by omega) | rfl)) rfl rfl ?_
   refine G [2, 9, 0] ?_
   refine ⟨m - 1, by omega, _, zak id _ _ ?_ ?_ rfl, i + 1, by omega, ?_, rfl⟩
   ·(repeat (first | exact trivial | (refine ⟨⟨(by first | rfl | (simp; done) | (simp; omega)), rfl⟩, ?_⟩)))
   ·exact ⟨⟨rfl, rfl⟩, trivial⟩
   ·intro j hj
    by_cases e : j = i
    ·subst e; rw [hc]; exact h1
    ·exact hf j (by omega)
 have hge : i = k.size := by simp at h; omega
 clear h
 subst hge
 rw [if_neg (by rw [zdf hf]; simp)]
 refine G [6] ?_
 refine zaa (zaQ U9) rfl rfl ?_
 refine G [3] ?_
 refine zal (fun m st => ∃ i : Nat, m + i = v.size ∧ (∀ j, j < i → badV (sAt v j) = false) ∧ st = St.of [(1, .ref 1 0), (46, .p (.v (.int .i64 v.size))), (47, .p (.v (.int .i64 i)))] [(1, .box 96 (lnA k v))]) v.size ?_ ?_
 ·refine ⟨_, zak id _ _ ?_ ?_ rfl, 0, by omega, by omega, rfl⟩
  ·(repeat (first | exact trivial | (refine ⟨⟨(by first | rfl | (simp; done) | (simp; omega)), rfl⟩, ?_⟩)))
  ·exact ⟨⟨rfl, rfl⟩, trivial⟩
 rintro m st ⟨i, hi, hf, rfl⟩
 refine G [5] ?_
 refine zab _ rfl (fun h => ?_) (fun h => ?_)
 ·have hlt : i < v.size := by simp at h; omega
  clear h
  have g1 := zeG hlt
  have hat := @zdC badV v i hlt
  have hb := sAt_B hlt
  generalize hc : sAt v i = c at *
  refine G [13] ?_
  refine zaa (zbD U9 (by omega) (by rw [Int.toNat_natCast]; exact g1)) rfl rfl ?_
  refine G [9, 2, 1, 9, 0] ?_
  refine zab _ rfl (fun h => ?_) (fun h => ?_)
  ·rw [if_pos (hat h)]
   refine G [5, 9, 0] ?_
   exact yE
  ·have h1 : badV c = false := h
   refine G [2] ?_
   refine zaa (zas (by first | exact IntWalk.i64_in _ (by omega) | rfl)) rfl rfl ?_
   refine G [2, 9, 0] ?_
   refine ⟨m - 1, by omega, _, zak id _ _ ?_ ?_ rfl, i + 1, by omega, ?_, rfl⟩
   ·(repeat (first | exact trivial | (refine ⟨⟨(by first | rfl | (simp; done) | (simp; omega)), rfl⟩, ?_⟩)))
   ·exact ⟨⟨rfl, rfl⟩, trivial⟩
   ·intro j hj
    by_cases e : j = i
    ·subst e; rw [hc]; exact h1
    ·exact hf j (by omega)
 have hge : i = v.size := by simp at h; omega
 clear h
 subst hge
 rw [if_neg (by rw [zdf hf]; simp)]
 refine G [6, 9, 0] ?_
 exact yE
set_option maxHeartbeats 2000000 in
theorem refLFault_s (k v : ByteArray) (hk : k.size ≤ 140737488351232) (hv : v.size ≤ 140737488351232) : Fn Tryz.prog 100 [.agg (lnA k v)] (.p (.v (.int .i64 (zgJ k v)))) [] := by
 unfold zgJ
 have hsz : zgl k v = ((decide (k = ⟨#[]⟩) || decide (30 < (k.size : Int))) || decide (70 < (v.size : Int))) := by
  unfold zgl
  rw [show decide ((k.size : Int) < 1) = decide (k = ⟨#[]⟩) from decide_eq_decide.2 ⟨fun h => ByteArray.size_eq_zero_iff.1 (by omega), fun h => by rw [h]; decide⟩]
 have lk : (bs (sb k)).length = k.size := by rw [bs_length, zd7]
 have lv : (bs (sb v)).length = v.size := by rw [bs_length, zd7]
 refine fnI fun w0 A => ?_
 refine G [14] ?_
 refine mb2 _ rfl rfl (fun hb => (zaQ U9)) (fun _ => trivial) ?_
 refine G [1, 2, 3] ?_
 refine mb2 _ rfl rfl (fun hb => (zaQ U9)) (fun _ => trivial) ?_
 refine G [1, 2, 1, 9, 0] ?_
 refine zab _ rfl (fun h => ?_) (fun h => ?_)
 ·rw [if_pos (hsz.trans h)]
  refine G [5, 9, 0] ?_
  exact yE
 rw [if_neg (by rw [hsz.trans h]; simp)]
 clear h hsz
 refine G [6] ?_
 refine zac (a_s2b 24 U9 U99 U5 (by first | omega | (simp only [maxLen]; omega)) rfl rfl) rfl rfl ⟨rfl, trivial⟩ ?_
 refine zac (zaG U99) rfl rfl ⟨rfl, trivial⟩ ?_
 refine G [3] ?_
 refine zal (fun m st => ∃ i : Nat, m + i = k.size ∧ (∀ j, j < i → badK (sAt k j) = false) ∧ st = St.of [(1, .ref 1 0), (24, .row 24), (25, .p (.v (.int .i64 k.size))), (26, .p (.v (.int .i64 i)))] [(1, .box 96 (lnA k v)), (24, .row 5 1 k.size (bs (sb k)))]) k.size ?_ ?_
 ·refine ⟨_, zak id _ _ ?_ ?_ rfl, 0, by omega, by omega, rfl⟩
  ·(repeat (first | exact trivial | (refine ⟨⟨(by first | rfl | (simp; done) | (simp; omega)), rfl⟩, ?_⟩)))
  ·exact ⟨⟨rfl, rfl⟩, ⟨rfl, rfl⟩, trivial⟩
 rintro m st ⟨i, hi, hf, rfl⟩
 refine G [5] ?_
 refine zab _ rfl (fun h => ?_) (fun h => ?_)
 ·have hlt : i < k.size := by simp at h; omega
  clear h
  have g1 := bs_at (sb_at hlt)
  have hat := @zdC badK k i hlt
  have hb := sAt_B hlt
  generalize hc : sAt k i = c at *
  refine G [5] ?_
  refine zac (zai U99 sz5 (by omega) (by omega) (show _ = i by omega)) rfl rfl ⟨rfl, trivial⟩ ?_
  refine zac (zaT U5 rfl (by first | rfl | assumption | ((try simp only [List.getElem?_drop, List.getElem?_take, Int.toNat_natCast, Nat.mul_one, Nat.add_zero, Nat.zero_add]); first | assumption | rfl))) rfl rfl ⟨rfl, trivial⟩ ?_
  refine G [12] ?_
  refine r_mb3 _ rfl rfl (.mb _ _ _ _ (by first | exact id | simp_all) (.keep _ _ _ (.keep _ _ _ .nil))) (fun hb => (a_or (by first | exact id | (simp_all; done) | grind))) (fun _ => trivial) ?_
  refine G [0, 2, 1] ?_
  have hcm : ((c != 95) && (decide (c < 97) || decide (122 < c))) = badK c := by unfold badK; rw [Bool.and_comm]
  rw [hcm]
  refine zaH ?_
  refine zab _ rfl (fun h => ?_) (fun h => ?_)
  ·rw [if_pos (hat h)]
   refine G [5, 9, 0] ?_
   exact yE
  ·refine G [2] ?_
   refine zaa (zas (by first | exact IntWalk.i64_in _ (by omega) | rfl)) rfl rfl ?_
   refine G [2, 9, 0] ?_
   refine ⟨m - 1, by omega, _, zak id _ _ ?_ ?_ rfl, i + 1, by omega, ?_, rfl⟩
   ·(repeat (first | exact trivial | (refine ⟨⟨(by first | rfl | (simp; done) | (simp; omega)), rfl⟩, ?_⟩)))
   ·exact ⟨⟨rfl, rfl⟩, ⟨rfl, rfl⟩, trivial⟩
   ·intro j hj
    by_cases e : j = i
    ·subst e; rw [hc]; exact h
    ·exact hf j (by omega)
 have hge : i = k.size := by simp at h; omega
 clear h
 subst hge
 rw [if_neg (by rw [zdf hf]; simp)]
 refine G [6] ?_
 refine zac (a_s2b 43 U9 U99 U5 (by first | omega | (simp only [maxLen]; omega)) rfl rfl) rfl rfl ⟨rfl, trivial⟩ ?_
 refine zac (zaG U99) rfl rfl ⟨rfl, trivial⟩ ?_
 refine G [3] ?_
 refine zal (fun m st => ∃ i : Nat, m + i = v.size ∧ (∀ j, j < i → badV (sAt v j) = false) ∧ st = St.of [(43, .row 43), (44, .p (.v (.int .i64 v.size))), (45, .p (.v (.int .i64 i)))] [(43, .row 5 1 v.size (bs (sb v)))]) v.size ?_ ?_
 ·refine ⟨_, zak id _ _ ?_ ?_ rfl, 0, by omega, by omega, rfl⟩
  ·(repeat (first | exact trivial | (refine ⟨⟨(by first | rfl | (simp; done) | (simp; omega)), rfl⟩, ?_⟩)))
  ·exact ⟨⟨rfl, rfl⟩, trivial⟩
 rintro m st ⟨i, hi, hf, rfl⟩
 refine G [5] ?_
 refine zab _ rfl (fun h => ?_) (fun h => ?_)
 ·have hlt : i < v.size := by simp at h; omega
  clear h
  have g1 := bs_at (sb_at hlt)
  have hat := @zdC badV v i hlt
  have hb := sAt_B hlt
  generalize hc : sAt v i = c at *
  refine G [5] ?_
  refine zac (zai U99 sz5 (by omega) (by omega) (show _ = i by omega)) rfl rfl ⟨rfl, trivial⟩ ?_
  refine zac (zaT U5 rfl (by first | rfl | assumption | ((try simp only [List.getElem?_drop, List.getElem?_take, Int.toNat_natCast, Nat.mul_one, Nat.add_zero, Nat.zero_add]); first | assumption | rfl))) rfl rfl ⟨rfl, trivial⟩ ?_
  refine G [9, 2, 1] ?_
  have hcm : (decide (c < 33) || decide (126 < c)) = badV c := by
   unfold badV; rw [show decide (c < 33) = decide (c ≤ 32) from decide_eq_decide.2 (by omega)]
  rw [hcm]
  refine zaH ?_
  refine zab _ rfl (fun h => ?_) (fun h => ?_)
  ·rw [if_pos (hat h)]
   refine G [5, 9, 0] ?_
   exact yE
  ·refine G [2] ?_
   refine zaa (zas (by first | exact IntWalk.i64_in _ (by omega) | rfl)) rfl rfl ?_
   refine G [2, 9, 0] ?_
   refine ⟨m - 1, by omega, _, zak id _ _ ?_ ?_ rfl, i + 1, by omega, ?_, rfl⟩
   ·(repeat (first | exact trivial | (refine ⟨⟨(by first | rfl | (simp; done) | (simp; omega)), rfl⟩, ?_⟩)))
   ·exact ⟨⟨rfl, rfl⟩, trivial⟩
   ·intro j hj
    by_cases e : j = i
    ·subst e; rw [hc]; exact h
    ·exact hf j (by omega)
 have hge : i = v.size := by simp at h; omega
 clear h
 subst hge
 rw [if_neg (by rw [zdf hf]; simp)]
 refine G [6, 9, 0] ?_
 exact yE
end Go.Proofs.YtkdfdcodkeclmaaGreatDoor
