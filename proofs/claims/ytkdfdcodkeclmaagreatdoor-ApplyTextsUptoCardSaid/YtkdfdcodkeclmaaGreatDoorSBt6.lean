/- batch.Read, over data. (Printed by wip/mkbt6.py.) -/
import Derived.Test.YtkdfdcodkeclmaaGreatDoorSBt4
namespace Go.Proofs.YtkdfdcodkeclmaaGreatDoor
open Tryz
open Go.RowKit Go.Sort
set_option linter.unusedVariables false
set_option linter.unusedSimpArgs false
set_option maxRecDepth 100000
def kdF (key : ByteArray) : Nat → Int
 | 0 => 0
 | n + 1 => if 0 < n ∧ word n = key then (n : Int) else kdF key n
theorem kdF_in (key : ByteArray) : ∀ n : Nat, n ≤ 11 → 0 ≤ kdF key n ∧ kdF key n ≤ 10
 | 0, _ => by simp [kdF]
 | n + 1, h => by
  unfold kdF
  split
  ·omega
  ·exact kdF_in key n (by omega)
theorem kdF_none (key : ByteArray) : ∀ n : Nat, (∀ j : Nat, j < n → 0 < j → word j ≠ key) → kdF key n = 0
 | 0, _ => rfl
 | n + 1, h => by
  unfold kdF
  rw [if_neg (fun ⟨h1, h2⟩ => h n (by omega) h1 h2)]
  exact kdF_none key n fun j hj => h j (by omega)
theorem word_inj : ∀ i : _root_.Fin 11, ∀ j : _root_.Fin 11, word i.val = word j.val → i = j := by decide +kernel
theorem kdF_some {key : ByteArray} {i : Nat} (h0 : 0 < i) (h1 : i < 11) (hw : word i = key) : ∀ n : Nat, i < n → n ≤ 11 → kdF key n = i
 | 0, h, _ => by omega
 | n + 1, h, hn => by
  unfold kdF
  by_cases e : i = n
  ·subst e
   rw [if_pos ⟨h0, hw⟩]
  ·rw [if_neg (fun ⟨h2, h3⟩ => e (by
    have := word_inj ⟨i, h1⟩ ⟨n, by omega⟩ (by rw [hw]; exact h3.symm)
    exact congrArg _root_.Fin.val this))]
   exact kdF_some h0 h1 hw n (by omega) (by omega)
def kd (key : ByteArray) : Int := kdF key 11
def npX (v : ByteArray) : Int := if npOk v then npA v else 0
def npY (v : ByteArray) : Int := if npOk v then npN v else 0
theorem npR_eq (v : ByteArray) : ∃ e : Int, npR v = .tup [.agg [.p (.v (.int .u32 (npX v))), .p (.v (.int .i64 (npY v)))], .p (.v (.int .i64 e))] := by
 unfold npR npX npY
 split <;> exact ⟨_, rfl⟩
theorem npX_in (v : ByteArray) : 0 ≤ npX v ∧ npX v < 4294967296 := by
 unfold npX
 split
 ·exact adA_in _
 ·omega
def bc (k : Int) (v : ByteArray) : SE :=
 if k = 2 ∨ k = 8 then ⟨k, ⟨#[]⟩, numV v 65535, 0, 0⟩ else if k = 3 ∨ k = 5 ∨ k = 9 then ⟨k, ⟨#[]⟩, 0, 0, 0⟩
 else if k = 10 then ⟨k, ⟨#[]⟩, 0, npX v, npY v⟩ else if k = 6 ∧ v = zcY then ⟨k, ⟨#[]⟩, 0, 0, 0⟩ else ⟨k, v, 0, 0, 0⟩
theorem numV_in (v : ByteArray) : 0 ≤ numV v 65535 ∧ numV v 65535 ≤ 65535 := by
 unfold numV
 split
 ·rename_i h
  have := (zdA h).2
  omega
 ·omega
theorem bc_ok {k : Int} {v : ByteArray} (hv : v.size < 4294967281) : (bc k v).OK := by
 have h1 := numV_in v
 have h2 := npX_in v
 unfold bc
 split
 ·exact ⟨by show (0 : Nat) < _; omega, by dsimp only; omega, by dsimp only; omega, by simp, by simp⟩
 ·split
  ·exact ⟨by show (0 : Nat) < _; omega, by simp, by simp, by simp, by simp⟩
  ·split
   ·exact ⟨by show (0 : Nat) < _; omega, by simp, by simp, h2.1, h2.2⟩
   ·split
    ·exact ⟨by show (0 : Nat) < _; omega, by simp, by simp, by simp, by simp⟩
    ·exact ⟨hv, by simp, by simp, by simp, by simp⟩
def isL (s : SE) (key v : ByteArray) : Prop := seE s = 0 ∧ word s.k = key ∧ seL s = v
noncomputable instance isL_dec (s : SE) (key v : ByteArray) : Decidable (isL s key v) := by unfold isL; infer_instance
def SE0 : SE := ⟨0, ⟨#[]⟩, 0, 0, 0⟩
def rdO (s : SE) (e : Int) : AV := .tup [.agg s.cells, .p (.v (.int .i64 e))]
noncomputable def rdR (key v : ByteArray) : AV := if kd key = 0 then rdO SE0 2 else if isL (bc (kd key) v) key v then rdO (bc (kd key) v) 0 else rdO SE0 3
theorem zdH (a b c d : ByteArray) : eqL [.string a, .string b] [.string c, .string d] = (decide (a = c) && decide (b = d)) := by
 rw [Bool.eq_iff_iff, zbT]
 simp
theorem zeP {α : Type} {p q : Prop} [Decidable p] [Decidable q] {a b : α} (h : p ↔ q) : (if p then a else b) = if q then a else b := by
 by_cases hp : p
 ·rw [if_pos hp, if_pos (h.1 hp)]
 ·rw [if_neg hp, if_neg (fun x => hp (h.2 x))]
theorem zdM (s : SE) : ∃ w v : ByteArray, seR s = .tup [.agg [.p (.v (.string w)), .p (.v (.string v))], .p (.v (.int .i64 (seE s)))] := by
 unfold seR
 by_cases h : seE s = 0
 ·rw [if_pos h, h]; exact ⟨_, _, rfl⟩
 ·rw [if_neg h]; exact ⟨_, _, rfl⟩
theorem zdU (s : SE) (key v : ByteArray) {w u : ByteArray} (h : seR s = .tup [.agg [.p (.v (.string w)), .p (.v (.string u))], .p (.v (.int .i64 (seE s)))]) : (isL s key v → seE s = 0 ∧ w = key ∧ u = v) ∧ (seE s = 0 ∧ w = key ∧ u = v → isL s key v) := by
 have key1 : seE s = 0 → w = word s.k ∧ u = seL s := by
  intro h0
  unfold seR at h
  rw [if_pos h0, h0] at h
  simp only [AV.tup.injEq, List.cons.injEq, AV.agg.injEq, AV.p.injEq, PV.v.injEq, Value.string.injEq, and_true] at h
  exact ⟨h.1.symm, h.2.symm⟩
 refine ⟨fun ⟨h0, h1, h2⟩ => ⟨h0, ?_, ?_⟩, fun ⟨h0, h1, h2⟩ => ⟨h0, ?_, ?_⟩⟩
 ·rw [(key1 h0).1, h1]
 ·rw [(key1 h0).2, h2]
 ·rw [← (key1 h0).1, h1]
 ·rw [← (key1 h0).2, h2]
set_option maxHeartbeats 8000000 in
theorem read_s (key v : ByteArray) (hv : v.size < 4294967281) : Fn prog 63 [.agg [.p (.v (.string key)), .p (.v (.string v))]] (rdR key v) [] := by
 obtain ⟨R, hR⟩ : ∃ R, rdR key v = R := ⟨_, rfl⟩
 rw [hR]
 unfold rdR at hR
 have hW := words_s
 have hwat := fun (i : Nat) (h : i < 11) => word_at (k := (i : Int)) (by omega) (by omega)
 have hks : ∀ n, kdF key (n + 1) = if 0 < n ∧ word n = key then (n : Int) else kdF key n := fun n => rfl
 have hk0 : kdF key 0 = 0 := rfl
 have hkin := kdF_in key 11 (by omega)
 unfold kd at hR
 refine fnI fun w0 A => ?_
 refine G [13] ?_
 refine cK hW ?_
 refine G [3] ?_
 refine zal (fun m st => ∃ i : Nat, m + i = 11 ∧ st = St.of [(1, .ref 1 0), (2, .ref 2 0), (4, .ref 4 0), (9, .agg WORDSA), (10, .p (.v (.int .i64 i)))] [(1, .box 96 [.p (.v (.string key)), .p (.v (.string v))]), (2, .box 29 [.p (.v (.int .i64 0)), .p (.v (.string ⟨#[]⟩)), .p (.v (.int .i64 0)), .p (.v (.int .u32 0)), .p (.v (.int .i64 0))]), (4, .box 29 [.p (.v (.int .i64 (kdF key i))), .p (.v (.string ⟨#[]⟩)), .p (.v (.int .i64 0)), .p (.v (.int .u32 0)), .p (.v (.int .i64 0))])]) 11 ?_ ?_
 ·refine ⟨_, zak id _ _ ?_ ?_ rfl, 0, by omega, rfl⟩
  ·(repeat (first | exact trivial | (refine ⟨⟨(by first | rfl | (simp; done) | (simp; omega)), rfl⟩, ?_⟩)))
  ·rw [hk0]
   exact ⟨⟨rfl, rfl⟩, ⟨rfl, rfl⟩, ⟨rfl, rfl⟩, trivial⟩
 rintro m st ⟨i, hi, rfl⟩
 refine G [5] ?_
 refine zab _ rfl (fun h => ?_) (fun h => ?_)
 ·have hlt : i < 11 := by simp at h; omega
  clear h
  have hat := hwat i hlt
  have hnx := hks i
  have hkv : ∀ x : Int, kdF key (i + 1) = x → ∀ st, Re st (St.of [(1, .ref 1 0), (2, .ref 2 0), (4, .ref 4 0), (9, .agg WORDSA), (10, .p (.v (.int .i64 ((i + 1 : Nat) : Int))))] [(1, .box 96 [.p (.v (.string key)), .p (.v (.string v))]), (2, .box 29 [.p (.v (.int .i64 0)), .p (.v (.string ⟨#[]⟩)), .p (.v (.int .i64 0)), .p (.v (.int .u32 0)), .p (.v (.int .i64 0))]), (4, .box 29 [.p (.v (.int .i64 x)), .p (.v (.string ⟨#[]⟩)), .p (.v (.int .i64 0)), .p (.v (.int .u32 0)), .p (.v (.int .i64 0))])]) →
    ∃ n', n' < m ∧ ∃ st1, Re st st1 ∧ ∃ i : Nat, n' + i = 11 ∧ st1 = St.of [(1, .ref 1 0), (2, .ref 2 0), (4, .ref 4 0), (9, .agg WORDSA), (10, .p (.v (.int .i64 i)))] [(1, .box 96 [.p (.v (.string key)), .p (.v (.string v))]), (2, .box 29 [.p (.v (.int .i64 0)), .p (.v (.string ⟨#[]⟩)), .p (.v (.int .i64 0)), .p (.v (.int .u32 0)), .p (.v (.int .i64 0))]), (4, .box 29 [.p (.v (.int .i64 (kdF key i))), .p (.v (.string ⟨#[]⟩)), .p (.v (.int .i64 0)), .p (.v (.int .u32 0)), .p (.v (.int .i64 0))])] := fun x hx st hre => ⟨m - 1, by omega, _, hre, i + 1, by omega, by rw [hx]⟩
  generalize kdF key i = k0 at *
  generalize word i = w at *
  by_cases h0 : 0 < i
  ·by_cases hw : w = key
   ·rw [if_pos ⟨h0, hw⟩] at hnx
    refine G [6] ?_
    refine zaa (zfn underlying137 sz9 U9 rfl (by omega) (by omega) hat) rfl rfl ?_
    refine G [6] ?_
    refine zaa (zbk (c := true) (by simp; omega)) rfl rfl ?_
    refine G [4] ?_
    refine zaa (zah (c := true) (by simp [hw])) rfl rfl ?_
    refine G [3] ?_
    skip
    refine G [3] ?_
    refine zac (za9 (Y := .p _) sz3 rfl (by first | exact Nat.eq_of_beq_eq_true rfl | (simp only [AV.cells, List.length_map]; first | assumption | omega)) (by first | exact Nat.le_of_ble_eq_true rfl | omega | (simp only [AV.cells, List.length_map]; omega)) (by first | (simp only [setR, AV.cells, List.take_succ_cons, List.take_zero, List.drop_succ_cons, List.drop_zero, List.drop_nil, List.take_nil, List.nil_append, List.cons_append, List.append_nil, List.length_cons, List.length_nil, Nat.reduceAdd, Nat.zero_add, Nat.add_zero]; rfl) | rfl)) rfl rfl ⟨rfl, trivial⟩ ?_
    refine G [2] ?_
    refine zaa (zas (by first | exact IntWalk.i64_in _ (by omega) | rfl)) rfl rfl ?_
    refine G [2, 9, 0] ?_
    refine hkv _ hnx _ (zak id _ _ ?_ ?_ rfl)
    ·(repeat (first | exact trivial | (refine ⟨⟨(by first | rfl | (simp; done) | (simp; omega)), rfl⟩, ?_⟩)))
    ·exact ⟨⟨rfl, rfl⟩, ⟨rfl, rfl⟩, ⟨rfl, rfl⟩, trivial⟩
   ·rw [if_neg (fun hh => hw hh.2)] at hnx
    refine G [6] ?_
    refine zaa (zfn underlying137 sz9 U9 rfl (by omega) (by omega) hat) rfl rfl ?_
    refine G [6] ?_
    refine zaa (zbk (c := true) (by simp; omega)) rfl rfl ?_
    refine G [4] ?_
    refine zaa (zah (c := false) (by simp [hw])) rfl rfl ?_
    refine G [5] ?_
    refine zaa (zas (by first | exact IntWalk.i64_in _ (by omega) | rfl)) rfl rfl ?_
    refine G [2, 9, 0] ?_
    refine hkv _ hnx _ (zak id _ _ ?_ ?_ rfl)
    ·(repeat (first | exact trivial | (refine ⟨⟨(by first | rfl | (simp; done) | (simp; omega)), rfl⟩, ?_⟩)))
    ·exact ⟨⟨rfl, rfl⟩, ⟨rfl, rfl⟩, ⟨rfl, rfl⟩, trivial⟩
  ·rw [if_neg (fun hh => h0 hh.1)] at hnx
   refine G [6] ?_
   refine zaa (zfn underlying137 sz9 U9 rfl (by omega) (by omega) hat) rfl rfl ?_
   refine G [6] ?_
   refine zaa (zbk (c := false) (by simp; omega)) rfl rfl ?_
   refine G [10] ?_
   refine zaa (zas (by first | exact IntWalk.i64_in _ (by omega) | rfl)) rfl rfl ?_
   refine G [2, 9, 0] ?_
   refine hkv _ hnx _ (zak id _ _ ?_ ?_ rfl)
   ·(repeat (first | exact trivial | (refine ⟨⟨(by first | rfl | (simp; done) | (simp; omega)), rfl⟩, ?_⟩)))
   ·exact ⟨⟨rfl, rfl⟩, ⟨rfl, rfl⟩, ⟨rfl, rfl⟩, trivial⟩
 have hge : i = 11 := by simp at h; omega
 clear h
 subst hge
 clear hwat hks hk0 hW
 generalize kdF key 11 = k at *
 by_cases k0 : k = 0
 ·rw [if_pos k0] at hR
  subst hR
  subst k0
  refine G [10, 1, 10, 9, 0] ?_
  exact yE
 rw [if_neg k0] at hR
 refine G [10] ?_
 refine zaa (zaA (c := false) (by simp; try omega)) rfl rfl ?_
 refine G [3] ?_
 by_cases h28 : k = 2 ∨ k = 8
 ·have hM := mostN_s k h28
  have hN := zgG v 65535 (by omega)
  unfold numR at hN
  have hbc : bc k v = ⟨k, ⟨#[]⟩, numV v 65535, 0, 0⟩ := if_pos h28
  have hL := zeU ⟨k, ⟨#[]⟩, numV v 65535, 0, 0⟩ (by rw [← hbc]; exact bc_ok hv)
  rw [hbc] at hR
  obtain ⟨w, u, hsR⟩ := zdM ⟨k, ⟨#[]⟩, numV v 65535, 0, 0⟩
  rw [hsR] at hL
  obtain ⟨hi1, hi2⟩ := zdU ⟨k, ⟨#[]⟩, numV v 65535, 0, 0⟩ key v hsR
  rw [show (if isL ⟨k, ⟨#[]⟩, numV v 65535, 0, 0⟩ key v then rdO ⟨k, ⟨#[]⟩, numV v 65535, 0, 0⟩ 0 else rdO SE0 3) = if seE ⟨k, ⟨#[]⟩, numV v 65535, 0, 0⟩ = 0 ∧ w = key ∧ u = v then rdO ⟨k, ⟨#[]⟩, numV v 65535, 0, 0⟩ 0 else rdO SE0 3 from zeP ⟨hi1, hi2⟩] at hR
  clear hsR hi1 hi2
  generalize seE ⟨k, ⟨#[]⟩, numV v 65535, 0, 0⟩ = e at *
  change Fn prog _ [.agg [.p (.v (.int .i64 k)), .p (.v (.string ⟨#[]⟩)), .p (.v (.int .i64 (numV v 65535))), .p (.v (.int .u32 0)), .p (.v (.int .i64 0))]] _ _ at hL
  change (if _ then .tup [.agg [.p (.v (.int .i64 k)), .p (.v (.string ⟨#[]⟩)), .p (.v (.int .i64 (numV v 65535))), .p (.v (.int .u32 0)), .p (.v (.int .i64 0))], _] else .tup [.agg [.p (.v (.int .i64 0)), .p (.v (.string ⟨#[]⟩)), .p (.v (.int .i64 0)), .p (.v (.int .u32 0)), .p (.v (.int .i64 0))], _]) = R at hR
  generalize numV v 65535 = nv at *
  generalize numE v 65535 = ne at *
  by_cases h2 : k = 2
  ·refine G [3] ?_
   refine zaa (zaA (c := true) (by simp; try omega)) rfl rfl ?_
   refine G [5] ?_
   skip
   refine G [5] ?_
   refine cK hM ?_
   refine cK hN ?_
   refine G [4] ?_
   refine zac (za9 (Y := .p _) sz3 rfl (by first | exact Nat.eq_of_beq_eq_true rfl | (simp only [AV.cells, List.length_map]; first | assumption | omega)) (by first | exact Nat.le_of_ble_eq_true rfl | omega | (simp only [AV.cells, List.length_map]; omega)) (by first | (simp only [setR, AV.cells, List.take_succ_cons, List.take_zero, List.drop_succ_cons, List.drop_zero, List.drop_nil, List.take_nil, List.nil_append, List.cons_append, List.append_nil, List.length_cons, List.length_nil, Nat.reduceAdd, Nat.zero_add, Nat.add_zero]; rfl) | rfl)) rfl rfl ⟨rfl, trivial⟩ ?_
   refine G [5] ?_
   refine cK hL ?_
   refine G [7] ?_
   by_cases he : e = 0
   ·by_cases hw : w = key ∧ u = v
    ·obtain ⟨rfl, rfl⟩ := hw
     rw [if_pos ⟨he, rfl, rfl⟩] at hR
     subst hR
     refine G [3] ?_
     refine zaa (zao (c := false) (by simp [he])) rfl rfl ?_
     refine G [3] ?_
     refine zaa (zam U96 rfl rfl (by kernel_rfl) (by kernel_rfl) (by kernel_rfl) (c := false) (by rw [zbF]; rfl)) rfl rfl ?_
     refine G [11, 9, 0] ?_
     exact yE
    ·rw [if_neg (fun hh => hw hh.2)] at hR
     subst hR
     refine G [3] ?_
     refine zaa (zao (c := false) (by simp [he])) rfl rfl ?_
     refine G [3] ?_
     refine zaa (zam U96 rfl rfl (by kernel_rfl) (by kernel_rfl) (by kernel_rfl) (c := true) (by rw [zdH]; simp only [Bool.not_eq_true', Bool.and_eq_false_iff, decide_eq_false_iff_not]; grind)) rfl rfl ?_
     refine G [10, 9, 0] ?_
     exact yE
   ·rw [if_neg (fun hh => he hh.1)] at hR
    subst hR
    refine G [3] ?_
    refine zaa (zao (c := true) (by simpa using he)) rfl rfl ?_
    refine G [14, 9, 0] ?_
    exact yE
  refine G [3] ?_
  refine zaa (zaA (c := false) (by simp; try omega)) rfl rfl ?_
  refine G [3] ?_
  skip
  refine tx ?_
  refine zaa (zaA (c := true) (by simp; try omega)) rfl rfl ?_
  refine G [3] ?_
  skip
  refine G [5] ?_
  refine cK hM ?_
  refine cK hN ?_
  refine G [4] ?_
  refine zac (za9 (Y := .p _) sz3 rfl (by first | exact Nat.eq_of_beq_eq_true rfl | (simp only [AV.cells, List.length_map]; first | assumption | omega)) (by first | exact Nat.le_of_ble_eq_true rfl | omega | (simp only [AV.cells, List.length_map]; omega)) (by first | (simp only [setR, AV.cells, List.take_succ_cons, List.take_zero, List.drop_succ_cons, List.drop_zero, List.drop_nil, List.take_nil, List.nil_append, List.cons_append, List.append_nil, List.length_cons, List.length_nil, Nat.reduceAdd, Nat.zero_add, Nat.add_zero]; rfl) | rfl)) rfl rfl ⟨rfl, trivial⟩ ?_
  refine G [5] ?_
  refine cK hL ?_
  refine G [7] ?_
  by_cases he : e = 0
  ·by_cases hw : w = key ∧ u = v
   ·obtain ⟨rfl, rfl⟩ := hw
    rw [if_pos ⟨he, rfl, rfl⟩] at hR
    subst hR
    refine G [3] ?_
    refine zaa (zao (c := false) (by simp [he])) rfl rfl ?_
    refine G [3] ?_
    refine zaa (zam U96 rfl rfl (by kernel_rfl) (by kernel_rfl) (by kernel_rfl) (c := false) (by rw [zbF]; rfl)) rfl rfl ?_
    refine G [11, 9, 0] ?_
    exact yE
   ·rw [if_neg (fun hh => hw hh.2)] at hR
    subst hR
    refine G [3] ?_
    refine zaa (zao (c := false) (by simp [he])) rfl rfl ?_
    refine G [3] ?_
    refine zaa (zam U96 rfl rfl (by kernel_rfl) (by kernel_rfl) (by kernel_rfl) (c := true) (by rw [zdH]; simp only [Bool.not_eq_true', Bool.and_eq_false_iff, decide_eq_false_iff_not]; grind)) rfl rfl ?_
    refine G [10, 9, 0] ?_
    exact yE
  ·rw [if_neg (fun hh => he hh.1)] at hR
   subst hR
   refine G [3] ?_
   refine zaa (zao (c := true) (by simpa using he)) rfl rfl ?_
   refine G [14, 9, 0] ?_
   exact yE
 refine G [3] ?_
 refine zaa (zaA (c := false) (by simp; try omega)) rfl rfl ?_
 refine G [3] ?_
 skip
 refine tx ?_
 refine zaa (zaA (c := false) (by simp; try omega)) rfl rfl ?_
 refine G [3] ?_
 by_cases h359 : k = 3 ∨ k = 5 ∨ k = 9
 ·have hbc : bc k v = ⟨k, ⟨#[]⟩, 0, 0, 0⟩ := by unfold bc; rw [if_neg h28, if_pos h359]
  have hL := zeU ⟨k, ⟨#[]⟩, 0, 0, 0⟩ (by rw [← hbc]; exact bc_ok hv)
  rw [hbc] at hR
  obtain ⟨w, u, hsR⟩ := zdM ⟨k, ⟨#[]⟩, 0, 0, 0⟩
  rw [hsR] at hL
  obtain ⟨hi1, hi2⟩ := zdU ⟨k, ⟨#[]⟩, 0, 0, 0⟩ key v hsR
  rw [show (if isL ⟨k, ⟨#[]⟩, 0, 0, 0⟩ key v then rdO ⟨k, ⟨#[]⟩, 0, 0, 0⟩ 0 else rdO SE0 3) = if seE ⟨k, ⟨#[]⟩, 0, 0, 0⟩ = 0 ∧ w = key ∧ u = v then rdO ⟨k, ⟨#[]⟩, 0, 0, 0⟩ 0 else rdO SE0 3 from zeP ⟨hi1, hi2⟩] at hR
  clear hsR hi1 hi2
  generalize seE ⟨k, ⟨#[]⟩, 0, 0, 0⟩ = e at *
  change Fn prog _ [.agg [.p (.v (.int .i64 k)), .p (.v (.string ⟨#[]⟩)), .p (.v (.int .i64 0)), .p (.v (.int .u32 0)), .p (.v (.int .i64 0))]] _ _ at hL
  change (if _ then .tup [.agg [.p (.v (.int .i64 k)), .p (.v (.string ⟨#[]⟩)), .p (.v (.int .i64 0)), .p (.v (.int .u32 0)), .p (.v (.int .i64 0))], _] else .tup [.agg [.p (.v (.int .i64 0)), .p (.v (.string ⟨#[]⟩)), .p (.v (.int .i64 0)), .p (.v (.int .u32 0)), .p (.v (.int .i64 0))], _]) = R at hR
  by_cases h3 : k = 3
  ·refine G [3] ?_
   refine zaa (zaA (c := true) (by simp; try omega)) rfl rfl ?_
   refine G [10] ?_
   refine cK hL ?_
   refine G [7] ?_
   by_cases he : e = 0
   ·by_cases hw : w = key ∧ u = v
    ·obtain ⟨rfl, rfl⟩ := hw
     rw [if_pos ⟨he, rfl, rfl⟩] at hR
     subst hR
     refine G [3] ?_
     refine zaa (zao (c := false) (by simp [he])) rfl rfl ?_
     refine G [3] ?_
     refine zaa (zam U96 rfl rfl (by kernel_rfl) (by kernel_rfl) (by kernel_rfl) (c := false) (by rw [zbF]; rfl)) rfl rfl ?_
     refine G [11, 9, 0] ?_
     exact yE
    ·rw [if_neg (fun hh => hw hh.2)] at hR
     subst hR
     refine G [3] ?_
     refine zaa (zao (c := false) (by simp [he])) rfl rfl ?_
     refine G [3] ?_
     refine zaa (zam U96 rfl rfl (by kernel_rfl) (by kernel_rfl) (by kernel_rfl) (c := true) (by rw [zdH]; simp only [Bool.not_eq_true', Bool.and_eq_false_iff, decide_eq_false_iff_not]; grind)) rfl rfl ?_
     refine G [10, 9, 0] ?_
     exact yE
   ·rw [if_neg (fun hh => he hh.1)] at hR
    subst hR
    refine G [3] ?_
    refine zaa (zao (c := true) (by simpa using he)) rfl rfl ?_
    refine G [14, 9, 0] ?_
    exact yE
  refine G [3] ?_
  refine zaa (zaA (c := false) (by simp; try omega)) rfl rfl ?_
  refine G [3] ?_
  by_cases h5 : k = 5
  ·refine G [2] ?_
   refine zaa (zaA (c := true) (by simp; try omega)) rfl rfl ?_
   refine G [10] ?_
   refine cK hL ?_
   refine G [7] ?_
   by_cases he : e = 0
   ·by_cases hw : w = key ∧ u = v
    ·obtain ⟨rfl, rfl⟩ := hw
     rw [if_pos ⟨he, rfl, rfl⟩] at hR
     subst hR
     refine G [3] ?_
     refine zaa (zao (c := false) (by simp [he])) rfl rfl ?_
     refine G [3] ?_
     refine zaa (zam U96 rfl rfl (by kernel_rfl) (by kernel_rfl) (by kernel_rfl) (c := false) (by rw [zbF]; rfl)) rfl rfl ?_
     refine G [11, 9, 0] ?_
     exact yE
    ·rw [if_neg (fun hh => hw hh.2)] at hR
     subst hR
     refine G [3] ?_
     refine zaa (zao (c := false) (by simp [he])) rfl rfl ?_
     refine G [3] ?_
     refine zaa (zam U96 rfl rfl (by kernel_rfl) (by kernel_rfl) (by kernel_rfl) (c := true) (by rw [zdH]; simp only [Bool.not_eq_true', Bool.and_eq_false_iff, decide_eq_false_iff_not]; grind)) rfl rfl ?_
     refine G [10, 9, 0] ?_
     exact yE
   ·rw [if_neg (fun hh => he hh.1)] at hR
    subst hR
    refine G [3] ?_
    refine zaa (zao (c := true) (by simpa using he)) rfl rfl ?_
    refine G [14, 9, 0] ?_
    exact yE
  refine G [2] ?_
  refine zaa (zaA (c := false) (by simp; try omega)) rfl rfl ?_
  refine G [3] ?_
  skip
  refine tx ?_
  refine zaa (zaA (c := true) (by simp; try omega)) rfl rfl ?_
  refine G [8] ?_
  refine cK hL ?_
  refine G [7] ?_
  by_cases he : e = 0
  ·by_cases hw : w = key ∧ u = v
   ·obtain ⟨rfl, rfl⟩ := hw
    rw [if_pos ⟨he, rfl, rfl⟩] at hR
    subst hR
    refine G [3] ?_
    refine zaa (zao (c := false) (by simp [he])) rfl rfl ?_
    refine G [3] ?_
    refine zaa (zam U96 rfl rfl (by kernel_rfl) (by kernel_rfl) (by kernel_rfl) (c := false) (by rw [zbF]; rfl)) rfl rfl ?_
    refine G [11, 9, 0] ?_
    exact yE
   ·rw [if_neg (fun hh => hw hh.2)] at hR
    subst hR
    refine G [3] ?_
    refine zaa (zao (c := false) (by simp [he])) rfl rfl ?_
    refine G [3] ?_
    refine zaa (zam U96 rfl rfl (by kernel_rfl) (by kernel_rfl) (by kernel_rfl) (c := true) (by rw [zdH]; simp only [Bool.not_eq_true', Bool.and_eq_false_iff, decide_eq_false_iff_not]; grind)) rfl rfl ?_
    refine G [10, 9, 0] ?_
    exact yE
  ·rw [if_neg (fun hh => he hh.1)] at hR
   subst hR
   refine G [3] ?_
   refine zaa (zao (c := true) (by simpa using he)) rfl rfl ?_
   refine G [14, 9, 0] ?_
   exact yE
 refine G [3] ?_
 refine zaa (zaA (c := false) (by simp; try omega)) rfl rfl ?_
 refine G [5] ?_
 refine zaa (zaA (c := false) (by simp; try omega)) rfl rfl ?_
 refine G [3] ?_
 skip
 refine tx ?_
 refine zaa (zaA (c := false) (by simp; try omega)) rfl rfl ?_
 refine G [3] ?_
 by_cases h10 : k = 10
 ·have hP := ntParse_s v hv
  obtain ⟨pe, hnp⟩ := npR_eq v
  rw [hnp] at hP
  clear hnp
  have hbc : bc k v = ⟨k, ⟨#[]⟩, 0, npX v, npY v⟩ := by unfold bc; rw [if_neg h28, if_neg h359, if_pos h10]
  have hL := zeU ⟨k, ⟨#[]⟩, 0, npX v, npY v⟩ (by rw [← hbc]; exact bc_ok hv)
  rw [hbc] at hR
  obtain ⟨w, u, hsR⟩ := zdM ⟨k, ⟨#[]⟩, 0, npX v, npY v⟩
  rw [hsR] at hL
  obtain ⟨hi1, hi2⟩ := zdU ⟨k, ⟨#[]⟩, 0, npX v, npY v⟩ key v hsR
  rw [show (if isL ⟨k, ⟨#[]⟩, 0, npX v, npY v⟩ key v then rdO ⟨k, ⟨#[]⟩, 0, npX v, npY v⟩ 0 else rdO SE0 3) = if seE ⟨k, ⟨#[]⟩, 0, npX v, npY v⟩ = 0 ∧ w = key ∧ u = v then rdO ⟨k, ⟨#[]⟩, 0, npX v, npY v⟩ 0 else rdO SE0 3 from zeP ⟨hi1, hi2⟩] at hR
  clear hsR hi1 hi2
  generalize seE ⟨k, ⟨#[]⟩, 0, npX v, npY v⟩ = e at *
  change Fn prog _ [.agg [.p (.v (.int .i64 k)), .p (.v (.string ⟨#[]⟩)), .p (.v (.int .i64 0)), .p (.v (.int .u32 (npX v))), .p (.v (.int .i64 (npY v)))]] _ _ at hL
  change (if _ then .tup [.agg [.p (.v (.int .i64 k)), .p (.v (.string ⟨#[]⟩)), .p (.v (.int .i64 0)), .p (.v (.int .u32 (npX v))), .p (.v (.int .i64 (npY v)))], _] else .tup [.agg [.p (.v (.int .i64 0)), .p (.v (.string ⟨#[]⟩)), .p (.v (.int .i64 0)), .p (.v (.int .u32 0)), .p (.v (.int .i64 0))], _]) = R at hR
  generalize npX v = xa at *
  generalize npY v = xb at *
  refine G [2] ?_
  refine zaa (zaA (c := true) (by simp; try omega)) rfl rfl ?_
  refine G [3] ?_
  skip
  refine G [3] ?_
  refine cK hP ?_
  refine G [4] ?_
  refine zac (za9 (Y := .agg _) sz27 rfl (by first | exact Nat.eq_of_beq_eq_true rfl | (simp only [AV.cells, List.length_map]; first | assumption | omega)) (by first | exact Nat.le_of_ble_eq_true rfl | omega | (simp only [AV.cells, List.length_map]; omega)) (by first | (simp only [setR, AV.cells, List.take_succ_cons, List.take_zero, List.drop_succ_cons, List.drop_zero, List.drop_nil, List.take_nil, List.nil_append, List.cons_append, List.append_nil, List.length_cons, List.length_nil, Nat.reduceAdd, Nat.zero_add, Nat.add_zero]; rfl) | rfl)) rfl rfl ⟨rfl, trivial⟩ ?_
  refine G [5] ?_
  refine cK hL ?_
  refine G [7] ?_
  by_cases he : e = 0
  ·by_cases hw : w = key ∧ u = v
   ·obtain ⟨rfl, rfl⟩ := hw
    rw [if_pos ⟨he, rfl, rfl⟩] at hR
    subst hR
    refine G [3] ?_
    refine zaa (zao (c := false) (by simp [he])) rfl rfl ?_
    refine G [3] ?_
    refine zaa (zam U96 rfl rfl (by kernel_rfl) (by kernel_rfl) (by kernel_rfl) (c := false) (by rw [zbF]; rfl)) rfl rfl ?_
    refine G [11, 9, 0] ?_
    exact yE
   ·rw [if_neg (fun hh => hw hh.2)] at hR
    subst hR
    refine G [3] ?_
    refine zaa (zao (c := false) (by simp [he])) rfl rfl ?_
    refine G [3] ?_
    refine zaa (zam U96 rfl rfl (by kernel_rfl) (by kernel_rfl) (by kernel_rfl) (c := true) (by rw [zdH]; simp only [Bool.not_eq_true', Bool.and_eq_false_iff, decide_eq_false_iff_not]; grind)) rfl rfl ?_
    refine G [10, 9, 0] ?_
    exact yE
  ·rw [if_neg (fun hh => he hh.1)] at hR
   subst hR
   refine G [3] ?_
   refine zaa (zao (c := true) (by simpa using he)) rfl rfl ?_
   refine G [14, 9, 0] ?_
   exact yE
 refine G [2] ?_
 refine zaa (zaA (c := false) (by simp; try omega)) rfl rfl ?_
 refine G [8] ?_
 refine zac (za9 (Y := .p _) sz9 rfl (by first | exact Nat.eq_of_beq_eq_true rfl | (simp only [AV.cells, List.length_map]; first | assumption | omega)) (by first | exact Nat.le_of_ble_eq_true rfl | omega | (simp only [AV.cells, List.length_map]; omega)) (by first | (simp only [setR, AV.cells, List.take_succ_cons, List.take_zero, List.drop_succ_cons, List.drop_zero, List.drop_nil, List.take_nil, List.nil_append, List.cons_append, List.append_nil, List.length_cons, List.length_nil, Nat.reduceAdd, Nat.zero_add, Nat.add_zero]; rfl) | rfl)) rfl rfl ⟨rfl, trivial⟩ ?_
 refine zaf ?_
 have hZ := zec
 by_cases h6 : k = 6
 ·by_cases hz : v = zcY
  ·have hbc : bc k v = ⟨k, ⟨#[]⟩, 0, 0, 0⟩ := by unfold bc; rw [if_neg h28, if_neg h359, if_neg h10, if_pos ⟨h6, hz⟩]
   have hL := zeU ⟨k, ⟨#[]⟩, 0, 0, 0⟩ (by rw [← hbc]; exact bc_ok hv)
   rw [hbc] at hR
   obtain ⟨w, u, hsR⟩ := zdM ⟨k, ⟨#[]⟩, 0, 0, 0⟩
   rw [hsR] at hL
   obtain ⟨hi1, hi2⟩ := zdU ⟨k, ⟨#[]⟩, 0, 0, 0⟩ key v hsR
   rw [show (if isL ⟨k, ⟨#[]⟩, 0, 0, 0⟩ key v then rdO ⟨k, ⟨#[]⟩, 0, 0, 0⟩ 0 else rdO SE0 3) = if seE ⟨k, ⟨#[]⟩, 0, 0, 0⟩ = 0 ∧ w = key ∧ u = v then rdO ⟨k, ⟨#[]⟩, 0, 0, 0⟩ 0 else rdO SE0 3 from zeP ⟨hi1, hi2⟩] at hR
   clear hsR hi1 hi2
   generalize seE ⟨k, ⟨#[]⟩, 0, 0, 0⟩ = e at *
   change Fn prog _ [.agg [.p (.v (.int .i64 k)), .p (.v (.string ⟨#[]⟩)), .p (.v (.int .i64 0)), .p (.v (.int .u32 0)), .p (.v (.int .i64 0))]] _ _ at hL
   change (if _ then .tup [.agg [.p (.v (.int .i64 k)), .p (.v (.string ⟨#[]⟩)), .p (.v (.int .i64 0)), .p (.v (.int .u32 0)), .p (.v (.int .i64 0))], _] else .tup [.agg [.p (.v (.int .i64 0)), .p (.v (.string ⟨#[]⟩)), .p (.v (.int .i64 0)), .p (.v (.int .u32 0)), .p (.v (.int .i64 0))], _]) = R at hR
   refine G [4] ?_
   refine zaa (zaA (c := true) (by simp; try omega)) rfl rfl ?_
   refine G [3] ?_
   (first | refine za1 rfl ?_ | refine zaw (fun n => 36 + 1000 * n) (hZ) rfl rfl func45 rfl rfl (by first | rfl | simp [AV.okInL, AV.okIn, zaj]) rfl rfl rfl (by first | exact trivial | exact ⟨rfl, trivial⟩ | exact ⟨rfl, rfl, trivial⟩ | exact ⟨rfl, rfl, rfl, rfl, rfl, trivial⟩) rfl rfl rfl ?_)
   refine zaa (zah (c := true) (by simp [hz])) rfl rfl ?_
   refine G [3] ?_
   skip
   refine G [2] ?_
   refine zac (za9 (Y := .p _) sz9 rfl (by first | exact Nat.eq_of_beq_eq_true rfl | (simp only [AV.cells, List.length_map]; first | assumption | omega)) (by first | exact Nat.le_of_ble_eq_true rfl | omega | (simp only [AV.cells, List.length_map]; omega)) (by first | (simp only [setR, AV.cells, List.take_succ_cons, List.take_zero, List.drop_succ_cons, List.drop_zero, List.drop_nil, List.take_nil, List.nil_append, List.cons_append, List.append_nil, List.length_cons, List.length_nil, Nat.reduceAdd, Nat.zero_add, Nat.add_zero]; rfl) | rfl)) rfl rfl ⟨rfl, trivial⟩ ?_
   refine G [5] ?_
   refine cK hL ?_
   refine G [7] ?_
   by_cases he : e = 0
   ·by_cases hw : w = key ∧ u = v
    ·obtain ⟨rfl, rfl⟩ := hw
     rw [if_pos ⟨he, rfl, rfl⟩] at hR
     subst hR
     refine G [3] ?_
     refine zaa (zao (c := false) (by simp [he])) rfl rfl ?_
     refine G [3] ?_
     refine zaa (zam U96 rfl rfl (by kernel_rfl) (by kernel_rfl) (by kernel_rfl) (c := false) (by rw [zbF]; rfl)) rfl rfl ?_
     refine G [11, 9, 0] ?_
     exact yE
    ·rw [if_neg (fun hh => hw hh.2)] at hR
     subst hR
     refine G [3] ?_
     refine zaa (zao (c := false) (by simp [he])) rfl rfl ?_
     refine G [3] ?_
     refine zaa (zam U96 rfl rfl (by kernel_rfl) (by kernel_rfl) (by kernel_rfl) (c := true) (by rw [zdH]; simp only [Bool.not_eq_true', Bool.and_eq_false_iff, decide_eq_false_iff_not]; grind)) rfl rfl ?_
     refine G [10, 9, 0] ?_
     exact yE
   ·rw [if_neg (fun hh => he hh.1)] at hR
    subst hR
    refine G [3] ?_
    refine zaa (zao (c := true) (by simpa using he)) rfl rfl ?_
    refine G [14, 9, 0] ?_
    exact yE
  have hbc : bc k v = ⟨k, v, 0, 0, 0⟩ := by unfold bc; rw [if_neg h28, if_neg h359, if_neg h10, if_neg (fun hh => hz hh.2)]
  have hL := zeU ⟨k, v, 0, 0, 0⟩ (by rw [← hbc]; exact bc_ok hv)
  rw [hbc] at hR
  obtain ⟨w, u, hsR⟩ := zdM ⟨k, v, 0, 0, 0⟩
  rw [hsR] at hL
  obtain ⟨hi1, hi2⟩ := zdU ⟨k, v, 0, 0, 0⟩ key v hsR
  rw [show (if isL ⟨k, v, 0, 0, 0⟩ key v then rdO ⟨k, v, 0, 0, 0⟩ 0 else rdO SE0 3) = if seE ⟨k, v, 0, 0, 0⟩ = 0 ∧ w = key ∧ u = v then rdO ⟨k, v, 0, 0, 0⟩ 0 else rdO SE0 3 from zeP ⟨hi1, hi2⟩] at hR
  clear hsR hi1 hi2
  generalize seE ⟨k, v, 0, 0, 0⟩ = e at *
  change Fn prog _ [.agg [.p (.v (.int .i64 k)), .p (.v (.string v)), .p (.v (.int .i64 0)), .p (.v (.int .u32 0)), .p (.v (.int .i64 0))]] _ _ at hL
  change (if _ then .tup [.agg [.p (.v (.int .i64 k)), .p (.v (.string v)), .p (.v (.int .i64 0)), .p (.v (.int .u32 0)), .p (.v (.int .i64 0))], _] else .tup [.agg [.p (.v (.int .i64 0)), .p (.v (.string ⟨#[]⟩)), .p (.v (.int .i64 0)), .p (.v (.int .u32 0)), .p (.v (.int .i64 0))], _]) = R at hR
  refine G [4] ?_
  refine zaa (zaA (c := true) (by simp; try omega)) rfl rfl ?_
  refine G [3] ?_
  (first | refine za1 rfl ?_ | refine zaw (fun n => 36 + 1000 * n) (hZ) rfl rfl func45 rfl rfl (by first | rfl | simp [AV.okInL, AV.okIn, zaj]) rfl rfl rfl (by first | exact trivial | exact ⟨rfl, trivial⟩ | exact ⟨rfl, rfl, trivial⟩ | exact ⟨rfl, rfl, rfl, rfl, rfl, trivial⟩) rfl rfl rfl ?_)
  refine zaa (zah (c := false) (by simp [hz])) rfl rfl ?_
  refine G [8] ?_
  refine cK hL ?_
  refine G [7] ?_
  by_cases he : e = 0
  ·by_cases hw : w = key ∧ u = v
   ·obtain ⟨rfl, rfl⟩ := hw
    rw [if_pos ⟨he, rfl, rfl⟩] at hR
    subst hR
    refine G [3] ?_
    refine zaa (zao (c := false) (by simp [he])) rfl rfl ?_
    refine G [3] ?_
    refine zaa (zam U96 rfl rfl (by kernel_rfl) (by kernel_rfl) (by kernel_rfl) (c := false) (by rw [zbF]; rfl)) rfl rfl ?_
    refine G [11, 9, 0] ?_
    exact yE
   ·rw [if_neg (fun hh => hw hh.2)] at hR
    subst hR
    refine G [3] ?_
    refine zaa (zao (c := false) (by simp [he])) rfl rfl ?_
    refine G [3] ?_
    refine zaa (zam U96 rfl rfl (by kernel_rfl) (by kernel_rfl) (by kernel_rfl) (c := true) (by rw [zdH]; simp only [Bool.not_eq_true', Bool.and_eq_false_iff, decide_eq_false_iff_not]; grind)) rfl rfl ?_
    refine G [10, 9, 0] ?_
    exact yE
  ·rw [if_neg (fun hh => he hh.1)] at hR
   subst hR
   refine G [3] ?_
   refine zaa (zao (c := true) (by simpa using he)) rfl rfl ?_
   refine G [14, 9, 0] ?_
   exact yE
 have hbc : bc k v = ⟨k, v, 0, 0, 0⟩ := by unfold bc; rw [if_neg h28, if_neg h359, if_neg h10, if_neg (fun hh => h6 hh.1)]
 have hL := zeU ⟨k, v, 0, 0, 0⟩ (by rw [← hbc]; exact bc_ok hv)
 rw [hbc] at hR
 obtain ⟨w, u, hsR⟩ := zdM ⟨k, v, 0, 0, 0⟩
 rw [hsR] at hL
 obtain ⟨hi1, hi2⟩ := zdU ⟨k, v, 0, 0, 0⟩ key v hsR
 rw [show (if isL ⟨k, v, 0, 0, 0⟩ key v then rdO ⟨k, v, 0, 0, 0⟩ 0 else rdO SE0 3) = if seE ⟨k, v, 0, 0, 0⟩ = 0 ∧ w = key ∧ u = v then rdO ⟨k, v, 0, 0, 0⟩ 0 else rdO SE0 3 from zeP ⟨hi1, hi2⟩] at hR
 clear hsR hi1 hi2
 generalize seE ⟨k, v, 0, 0, 0⟩ = e at *
 change Fn prog _ [.agg [.p (.v (.int .i64 k)), .p (.v (.string v)), .p (.v (.int .i64 0)), .p (.v (.int .u32 0)), .p (.v (.int .i64 0))]] _ _ at hL
 change (if _ then .tup [.agg [.p (.v (.int .i64 k)), .p (.v (.string v)), .p (.v (.int .i64 0)), .p (.v (.int .u32 0)), .p (.v (.int .i64 0))], _] else .tup [.agg [.p (.v (.int .i64 0)), .p (.v (.string ⟨#[]⟩)), .p (.v (.int .i64 0)), .p (.v (.int .u32 0)), .p (.v (.int .i64 0))], _]) = R at hR
 refine G [4] ?_
 refine zaa (zaA (c := false) (by simp; try omega)) rfl rfl ?_
 refine G [13] ?_
 refine cK hL ?_
 refine G [7] ?_
 by_cases he : e = 0
 ·by_cases hw : w = key ∧ u = v
  ·obtain ⟨rfl, rfl⟩ := hw
   rw [if_pos ⟨he, rfl, rfl⟩] at hR
   subst hR
   refine G [3] ?_
   refine zaa (zao (c := false) (by simp [he])) rfl rfl ?_
   refine G [3] ?_
   refine zaa (zam U96 rfl rfl (by kernel_rfl) (by kernel_rfl) (by kernel_rfl) (c := false) (by rw [zbF]; rfl)) rfl rfl ?_
   refine G [11, 9, 0] ?_
   exact yE
  ·rw [if_neg (fun hh => hw hh.2)] at hR
   subst hR
   refine G [3] ?_
   refine zaa (zao (c := false) (by simp [he])) rfl rfl ?_
   refine G [3] ?_
   refine zaa (zam U96 rfl rfl (by kernel_rfl) (by kernel_rfl) (by kernel_rfl) (c := true) (by rw [zdH]; simp only [Bool.not_eq_true', Bool.and_eq_false_iff, decide_eq_false_iff_not]; grind)) rfl rfl ?_
   refine G [10, 9, 0] ?_
   exact yE
 ·rw [if_neg (fun hh => he hh.1)] at hR
  subst hR
  refine G [3] ?_
  refine zaa (zao (c := true) (by simpa using he)) rfl rfl ?_
  refine G [14, 9, 0] ?_
  exact yE
end Go.Proofs.YtkdfdcodkeclmaaGreatDoor
