/- batch.Check and the reference's SettingFault, kind by kind, over data. (Printed by wip/mkbt.py.) -/
import Derived.Test.YtbjdjclkbjpebaaGreatDoorSCf1
namespace Go.Proofs.YtbjdjclkbjpebaaGreatDoor
open Tryz
open Go.RowKit Go.Sort
set_option maxHeartbeats 16000000
set_option linter.unusedVariables false
set_option linter.unusedSimpArgs false
set_option maxRecDepth 100000
structure SE where
 k : Int
 t : ByteArray
 n : Int
 a : Int
 b : Int
def SE.cells (s : SE) : List AV := [.p (.v (.int .i64 s.k)), .p (.v (.string s.t)), .p (.v (.int .i64 s.n)), .p (.v (.int .u32 s.a)), .p (.v (.int .i64 s.b))]
def SE.pv (s : SE) : List PV := [.v (.int .i64 s.k), .v (.string s.t), .v (.int .i64 s.n), .v (.int .u32 s.a), .v (.int .i64 s.b)]
structure SE.OK (s : SE) : Prop where
 t : s.t.size < 4294967281
 n0 : -9223372036854775808 ≤ s.n
 n1 : s.n ≤ 9223372036854775807
 a0 : 0 ≤ s.a
 a1 : s.a < 4294967296
def isT (k : Int) : Bool := k == 1 || k == 4 || k == 6 || k == 7
def isN (k : Int) : Bool := k == 2 || k == 8
def isC (k : Int) : Bool := k == 10
def seF (s : SE) : Prop := (isT s.k = false ∧ s.t ≠ ⟨#[]⟩) ∨ (isN s.k = false ∧ s.n ≠ 0) ∨ (isC s.k = false ∧ ¬ (s.a = 0 ∧ s.b = 0))
instance seF_dec (s : SE) : Decidable (seF s) := by unfold seF; infer_instance
def seV (s : SE) : Int :=
 if isN s.k = true then (if s.n < 0 ∨ 65535 < s.n then 4 else 0)
 else if isC s.k = true then zai s.a s.b
 else if s.k = 7 then enE s.t
 else if s.k = 6 then (if s.t = ⟨#[]⟩ then 0 else if s.t = zfS then 3 else keyE s.t)
 else if isT s.k = true then keyE s.t else 0
def seE (s : SE) : Int := if s.k < 1 ∨ 10 < s.k then 2 else if seF s then 3 else seV s
theorem zbj (a b : Int) : eqL [.int .u32 a, .int .i64 b] [.int .u32 0, .int .i64 0] = (a == 0 && b == 0) := by
 rw [Bool.eq_iff_iff, zaQ]
 simp
theorem seV_1 (t : ByteArray) (n a b : Int) : seV ⟨1, t, n, a, b⟩ = (keyE t) := by simp [seV, isN, isC, isT]
theorem seV_2 (t : ByteArray) (n a b : Int) : seV ⟨2, t, n, a, b⟩ = (if n < 0 ∨ 65535 < n then 4 else 0) := by simp [seV, isN, isC, isT]
theorem seV_3 (t : ByteArray) (n a b : Int) : seV ⟨3, t, n, a, b⟩ = (0) := by simp [seV, isN, isC, isT]
theorem seV_4 (t : ByteArray) (n a b : Int) : seV ⟨4, t, n, a, b⟩ = (keyE t) := by simp [seV, isN, isC, isT]
theorem seV_5 (t : ByteArray) (n a b : Int) : seV ⟨5, t, n, a, b⟩ = (0) := by simp [seV, isN, isC, isT]
theorem seV_6 (t : ByteArray) (n a b : Int) : seV ⟨6, t, n, a, b⟩ = (if t = ⟨#[]⟩ then 0 else if t = zfS then 3 else keyE t) := by simp [seV, isN, isC, isT]
theorem seV_7 (t : ByteArray) (n a b : Int) : seV ⟨7, t, n, a, b⟩ = (enE t) := by simp [seV, isN, isC, isT]
theorem seV_8 (t : ByteArray) (n a b : Int) : seV ⟨8, t, n, a, b⟩ = (if n < 0 ∨ 65535 < n then 4 else 0) := by simp [seV, isN, isC, isT]
theorem seV_9 (t : ByteArray) (n a b : Int) : seV ⟨9, t, n, a, b⟩ = (0) := by simp [seV, isN, isC, isT]
theorem seV_10 (t : ByteArray) (n a b : Int) : seV ⟨10, t, n, a, b⟩ = (zai a b) := by simp [seV, isN, isC, isT]
theorem mostN_s (k : Int) (hk : k = 2 ∨ k = 8) : Fn prog 97 [.p (.v (.int .i64 k))] (.p (.v (.int .i64 65535))) [] := by
 rcases hk with rfl | rfl
 ·refine fnI fun w0 A => ?_
  refine G [12, 1, 8, 9, 0] ?_
  exact yE
 ·refine fnI fun w0 A => ?_
  refine G [18, 1, 8, 9, 0] ?_
  exact yE
theorem most1_s : Fn prog 97 [.p (.v (.int .i64 1))] (.p (.v (.int .i64 (-1)))) [] := by
 exact ja1
theorem most3_s : Fn prog 97 [.p (.v (.int .i64 3))] (.p (.v (.int .i64 (-1)))) [] := by
 exact ja1
theorem most4_s : Fn prog 97 [.p (.v (.int .i64 4))] (.p (.v (.int .i64 (-1)))) [] := by
 exact ja1
theorem most5_s : Fn prog 97 [.p (.v (.int .i64 5))] (.p (.v (.int .i64 (-1)))) [] := by
 exact ja1
theorem most6_s : Fn prog 97 [.p (.v (.int .i64 6))] (.p (.v (.int .i64 (-1)))) [] := by
 exact ja1
theorem most7_s : Fn prog 97 [.p (.v (.int .i64 7))] (.p (.v (.int .i64 (-1)))) [] := by
 exact ja1
theorem most9_s : Fn prog 97 [.p (.v (.int .i64 9))] (.p (.v (.int .i64 (-1)))) [] := by
 exact ja1
theorem most10_s : Fn prog 97 [.p (.v (.int .i64 10))] (.p (.v (.int .i64 (-1)))) [] := by
 exact ja1
theorem check1_s (t : ByteArray) (n a b : Int) (ok : SE.OK ⟨1, t, n, a, b⟩) : Fn prog 61 [.agg (SE.cells ⟨1, t, n, a, b⟩)] (.p (.v (.int .i64 (seE ⟨1, t, n, a, b⟩)))) [] := by
 obtain ⟨hz, hn0, hn1, ha0, ha1⟩ := ok
 dsimp only at hz hn0 hn1 ha0 ha1
 obtain ⟨E, hE⟩ : ∃ E, seE ⟨1, t, n, a, b⟩ = E := ⟨_, rfl⟩
 rw [hE]
 unfold seE at hE
 rw [if_neg (by dsimp only; decide)] at hE
 show Fn prog _ [.agg [.p (.v (.int .i64 1)), .p (.v (.string t)), .p (.v (.int .i64 n)), .p (.v (.int .u32 a)), .p (.v (.int .i64 b))]] _ _
 have hM := most1_s
 have hH := zbf t
 refine fnI fun w0 A => ?_
 refine G [23] ?_
 refine cK hM ?_
 refine G [18, 1, 5] ?_
 skip
 refine G [3] ?_
 by_cases hn : n ≠ 0
 ·rw [if_pos (show seF ⟨1, t, n, a, b⟩ by simp [seF, isT, isN, isC, *])] at hE
  exact jcb
 replace hn : n = 0 := Decidable.not_not.1 hn
 refine G [16, 3, 9] ?_
 refine jcF ?_
 refine jcJ ?_
 refine cX (fun h => ?_) fun h => ?_
 ·have hq : ¬ (a = 0 ∧ b = 0) := by
   simp only [zbj] at h
   simp at h
   omega
  rw [if_pos (show seF ⟨1, t, n, a, b⟩ by simp [seF, isT, isN, isC]; omega)] at hE
  subst hE
  refine jct ?_
  exact yE
 have hq : a = 0 ∧ b = 0 := by
  simp only [zbj] at h
  simp at h
  omega
 clear h
 rw [if_neg (show ¬ seF ⟨1, t, n, a, b⟩ by simp [seF, isT, isN, isC, *])] at hE
 rw [seV_1] at hE
 refine G [11, 1, 5] ?_
 subst hE
 refine G [4] ?_
 refine cV hH ?_
 refine jcJ ?_
 exact yE
theorem check2_s (t : ByteArray) (n a b : Int) (ok : SE.OK ⟨2, t, n, a, b⟩) : Fn prog 61 [.agg (SE.cells ⟨2, t, n, a, b⟩)] (.p (.v (.int .i64 (seE ⟨2, t, n, a, b⟩)))) [] := by
 obtain ⟨hz, hn0, hn1, ha0, ha1⟩ := ok
 dsimp only at hz hn0 hn1 ha0 ha1
 obtain ⟨E, hE⟩ : ∃ E, seE ⟨2, t, n, a, b⟩ = E := ⟨_, rfl⟩
 rw [hE]
 unfold seE at hE
 rw [if_neg (by dsimp only; decide)] at hE
 show Fn prog _ [.agg [.p (.v (.int .i64 2)), .p (.v (.string t)), .p (.v (.int .i64 n)), .p (.v (.int .u32 a)), .p (.v (.int .i64 b))]] _ _
 have hM := mostN_s 2 (by decide)
 refine fnI fun w0 A => ?_
 refine G [23] ?_
 refine cK hM ?_
 refine G [34] ?_
 skip
 refine G [5] ?_
 by_cases ht : t ≠ ⟨#[]⟩
 ·rw [if_pos (show seF ⟨2, t, n, a, b⟩ by simp [seF, isT, isN, isC, *])] at hE
  exact jbD
 replace ht : t = ⟨#[]⟩ := Decidable.not_not.1 ht
 refine G [9, 3, 17] ?_
 refine jcF ?_
 refine jcJ ?_
 refine cX (fun h => ?_) fun h => ?_
 ·have hq : ¬ (a = 0 ∧ b = 0) := by
   simp only [zbj] at h
   simp at h
   omega
  rw [if_pos (show seF ⟨2, t, n, a, b⟩ by simp [seF, isT, isN, isC]; omega)] at hE
  subst hE
  refine jct ?_
  exact yE
 have hq : a = 0 ∧ b = 0 := by
  simp only [zbj] at h
  simp at h
  omega
 clear h
 rw [if_neg (show ¬ seF ⟨2, t, n, a, b⟩ by simp [seF, isT, isN, isC, *])] at hE
 rw [seV_2] at hE
 refine G [15] ?_
 skip
 refine G [23] ?_
 by_cases hl : n < 0
 ·rw [if_pos (.inl hl)] at hE
  subst hE
  refine G [8, 4, 16, 9, 0] ?_
  exact yE
 refine G [8, 3, 5] ?_
 (first | refine zcb rfl ?_ | refine zbO (fun n => 102 + 1000 * n) (hM) rfl rfl func97 rfl rfl (by first | rfl | simp [AV.okInL, AV.okIn, zay]) rfl rfl rfl (by first | exact trivial | exact ⟨rfl, trivial⟩ | exact ⟨rfl, rfl, trivial⟩ | exact ⟨rfl, rfl, rfl, rfl, rfl, trivial⟩) rfl rfl rfl ?_)
 refine G [4, 9, 0] ?_
 refine cX (fun h => ?_) fun h => ?_
 ·exact jbu
 have h1 : ¬ 65535 < n := by simpa using h
 clear h
 rw [if_neg (by omega)] at hE
 subst hE
 refine jcs ?_
 exact yE
theorem check3_s (t : ByteArray) (n a b : Int) (ok : SE.OK ⟨3, t, n, a, b⟩) : Fn prog 61 [.agg (SE.cells ⟨3, t, n, a, b⟩)] (.p (.v (.int .i64 (seE ⟨3, t, n, a, b⟩)))) [] := by
 obtain ⟨hz, hn0, hn1, ha0, ha1⟩ := ok
 dsimp only at hz hn0 hn1 ha0 ha1
 obtain ⟨E, hE⟩ : ∃ E, seE ⟨3, t, n, a, b⟩ = E := ⟨_, rfl⟩
 rw [hE]
 unfold seE at hE
 rw [if_neg (by dsimp only; decide)] at hE
 show Fn prog _ [.agg [.p (.v (.int .i64 3)), .p (.v (.string t)), .p (.v (.int .i64 n)), .p (.v (.int .u32 a)), .p (.v (.int .i64 b))]] _ _
 have hM := most3_s
 refine fnI fun w0 A => ?_
 refine G [23] ?_
 refine cK hM ?_
 refine G [34] ?_
 skip
 refine G [5] ?_
 by_cases ht : t ≠ ⟨#[]⟩
 ·rw [if_pos (show seF ⟨3, t, n, a, b⟩ by simp [seF, isT, isN, isC, *])] at hE
  exact jbD
 replace ht : t = ⟨#[]⟩ := Decidable.not_not.1 ht
 by_cases hn : n ≠ 0
 ·rw [if_pos (show seF ⟨3, t, n, a, b⟩ by simp [seF, isT, isN, isC, *])] at hE
  exact jb4
 replace hn : n = 0 := Decidable.not_not.1 hn
 refine G [9, 3, 7, 3, 9] ?_
 refine jcF ?_
 refine jcJ ?_
 refine cX (fun h => ?_) fun h => ?_
 ·have hq : ¬ (a = 0 ∧ b = 0) := by
   simp only [zbj] at h
   simp at h
   omega
  rw [if_pos (show seF ⟨3, t, n, a, b⟩ by simp [seF, isT, isN, isC]; omega)] at hE
  subst hE
  refine jct ?_
  exact yE
 have hq : a = 0 ∧ b = 0 := by
  simp only [zbj] at h
  simp at h
  omega
 clear h
 rw [if_neg (show ¬ seF ⟨3, t, n, a, b⟩ by simp [seF, isT, isN, isC, *])] at hE
 rw [seV_3] at hE
 refine G [15] ?_
 skip
 refine G [23] ?_
 subst hE
 refine G [26, 9, 0] ?_
 exact yE
theorem check4_s (t : ByteArray) (n a b : Int) (ok : SE.OK ⟨4, t, n, a, b⟩) : Fn prog 61 [.agg (SE.cells ⟨4, t, n, a, b⟩)] (.p (.v (.int .i64 (seE ⟨4, t, n, a, b⟩)))) [] := by
 obtain ⟨hz, hn0, hn1, ha0, ha1⟩ := ok
 dsimp only at hz hn0 hn1 ha0 ha1
 obtain ⟨E, hE⟩ : ∃ E, seE ⟨4, t, n, a, b⟩ = E := ⟨_, rfl⟩
 rw [hE]
 unfold seE at hE
 rw [if_neg (by dsimp only; decide)] at hE
 show Fn prog _ [.agg [.p (.v (.int .i64 4)), .p (.v (.string t)), .p (.v (.int .i64 n)), .p (.v (.int .u32 a)), .p (.v (.int .i64 b))]] _ _
 have hM := most4_s
 have hH := zbf t
 refine fnI fun w0 A => ?_
 refine G [23] ?_
 refine cK hM ?_
 refine G [24, 1, 5] ?_
 skip
 refine G [3] ?_
 by_cases hn : n ≠ 0
 ·rw [if_pos (show seF ⟨4, t, n, a, b⟩ by simp [seF, isT, isN, isC, *])] at hE
  exact jcb
 replace hn : n = 0 := Decidable.not_not.1 hn
 refine G [16, 3, 9] ?_
 refine jcF ?_
 refine jcJ ?_
 refine cX (fun h => ?_) fun h => ?_
 ·have hq : ¬ (a = 0 ∧ b = 0) := by
   simp only [zbj] at h
   simp at h
   omega
  rw [if_pos (show seF ⟨4, t, n, a, b⟩ by simp [seF, isT, isN, isC]; omega)] at hE
  subst hE
  refine jct ?_
  exact yE
 have hq : a = 0 ∧ b = 0 := by
  simp only [zbj] at h
  simp at h
  omega
 clear h
 rw [if_neg (show ¬ seF ⟨4, t, n, a, b⟩ by simp [seF, isT, isN, isC, *])] at hE
 rw [seV_4] at hE
 refine G [15] ?_
 skip
 refine G [1, 1, 3] ?_
 subst hE
 refine G [4] ?_
 refine cV hH ?_
 refine jcJ ?_
 exact yE
theorem check5_s (t : ByteArray) (n a b : Int) (ok : SE.OK ⟨5, t, n, a, b⟩) : Fn prog 61 [.agg (SE.cells ⟨5, t, n, a, b⟩)] (.p (.v (.int .i64 (seE ⟨5, t, n, a, b⟩)))) [] := by
 obtain ⟨hz, hn0, hn1, ha0, ha1⟩ := ok
 dsimp only at hz hn0 hn1 ha0 ha1
 obtain ⟨E, hE⟩ : ∃ E, seE ⟨5, t, n, a, b⟩ = E := ⟨_, rfl⟩
 rw [hE]
 unfold seE at hE
 rw [if_neg (by dsimp only; decide)] at hE
 show Fn prog _ [.agg [.p (.v (.int .i64 5)), .p (.v (.string t)), .p (.v (.int .i64 n)), .p (.v (.int .u32 a)), .p (.v (.int .i64 b))]] _ _
 have hM := most5_s
 refine fnI fun w0 A => ?_
 refine G [23] ?_
 refine cK hM ?_
 refine G [34] ?_
 skip
 refine G [5] ?_
 by_cases ht : t ≠ ⟨#[]⟩
 ·rw [if_pos (show seF ⟨5, t, n, a, b⟩ by simp [seF, isT, isN, isC, *])] at hE
  exact jbD
 replace ht : t = ⟨#[]⟩ := Decidable.not_not.1 ht
 by_cases hn : n ≠ 0
 ·rw [if_pos (show seF ⟨5, t, n, a, b⟩ by simp [seF, isT, isN, isC, *])] at hE
  exact jb4
 replace hn : n = 0 := Decidable.not_not.1 hn
 refine G [9, 3, 7, 3, 9] ?_
 refine jcF ?_
 refine jcJ ?_
 refine cX (fun h => ?_) fun h => ?_
 ·have hq : ¬ (a = 0 ∧ b = 0) := by
   simp only [zbj] at h
   simp at h
   omega
  rw [if_pos (show seF ⟨5, t, n, a, b⟩ by simp [seF, isT, isN, isC]; omega)] at hE
  subst hE
  refine jct ?_
  exact yE
 have hq : a = 0 ∧ b = 0 := by
  simp only [zbj] at h
  simp at h
  omega
 clear h
 rw [if_neg (show ¬ seF ⟨5, t, n, a, b⟩ by simp [seF, isT, isN, isC, *])] at hE
 rw [seV_5] at hE
 refine G [15] ?_
 skip
 refine G [23] ?_
 subst hE
 refine G [26, 9, 0] ?_
 exact yE
theorem check6_s (t : ByteArray) (n a b : Int) (ok : SE.OK ⟨6, t, n, a, b⟩) : Fn prog 61 [.agg (SE.cells ⟨6, t, n, a, b⟩)] (.p (.v (.int .i64 (seE ⟨6, t, n, a, b⟩)))) [] := by
 obtain ⟨hz, hn0, hn1, ha0, ha1⟩ := ok
 dsimp only at hz hn0 hn1 ha0 ha1
 obtain ⟨E, hE⟩ : ∃ E, seE ⟨6, t, n, a, b⟩ = E := ⟨_, rfl⟩
 rw [hE]
 unfold seE at hE
 rw [if_neg (by dsimp only; decide)] at hE
 show Fn prog _ [.agg [.p (.v (.int .i64 6)), .p (.v (.string t)), .p (.v (.int .i64 n)), .p (.v (.int .u32 a)), .p (.v (.int .i64 b))]] _ _
 have hM := most6_s
 have hH := zbf t
 have hZ := zh8
 refine fnI fun w0 A => ?_
 refine G [23] ?_
 refine cK hM ?_
 refine G [30, 1, 5] ?_
 skip
 refine G [3] ?_
 by_cases hn : n ≠ 0
 ·rw [if_pos (show seF ⟨6, t, n, a, b⟩ by simp [seF, isT, isN, isC, *])] at hE
  exact jcb
 replace hn : n = 0 := Decidable.not_not.1 hn
 refine G [16, 3, 9] ?_
 refine jcF ?_
 refine jcJ ?_
 refine cX (fun h => ?_) fun h => ?_
 ·have hq : ¬ (a = 0 ∧ b = 0) := by
   simp only [zbj] at h
   simp at h
   omega
  rw [if_pos (show seF ⟨6, t, n, a, b⟩ by simp [seF, isT, isN, isC]; omega)] at hE
  subst hE
  refine jct ?_
  exact yE
 have hq : a = 0 ∧ b = 0 := by
  simp only [zbj] at h
  simp at h
  omega
 clear h
 rw [if_neg (show ¬ seF ⟨6, t, n, a, b⟩ by simp [seF, isT, isN, isC, *])] at hE
 rw [seV_6] at hE
 refine G [15] ?_
 skip
 refine G [7, 1, 10, 9, 0] ?_
 refine cX (fun h => ?_) fun h => ?_
 ·have h1 : t = ⟨#[]⟩ := by simpa using h
  exact jbs
 have h1 : ¬ t = ⟨#[]⟩ := by simpa using h
 clear h
 rw [if_neg h1] at hE
 refine G [6] ?_
 refine cK hZ ?_
 refine G [2, 9, 0] ?_
 refine cX (fun h => ?_) fun h => ?_
 ·have h2 : t = zfS := by simpa using h
  rw [if_pos h2] at hE
  subst hE
  refine jct ?_
  exact yE
 have h2 : ¬ t = zfS := by simpa using h
 rw [if_neg h2] at hE
 subst hE
 refine G [5] ?_
 refine cV hH ?_
 refine jcJ ?_
 exact yE
theorem check7_s (t : ByteArray) (n a b : Int) (ok : SE.OK ⟨7, t, n, a, b⟩) : Fn prog 61 [.agg (SE.cells ⟨7, t, n, a, b⟩)] (.p (.v (.int .i64 (seE ⟨7, t, n, a, b⟩)))) [] := by
 obtain ⟨hz, hn0, hn1, ha0, ha1⟩ := ok
 dsimp only at hz hn0 hn1 ha0 ha1
 obtain ⟨E, hE⟩ : ∃ E, seE ⟨7, t, n, a, b⟩ = E := ⟨_, rfl⟩
 rw [hE]
 unfold seE at hE
 rw [if_neg (by dsimp only; decide)] at hE
 show Fn prog _ [.agg [.p (.v (.int .i64 7)), .p (.v (.string t)), .p (.v (.int .i64 n)), .p (.v (.int .u32 a)), .p (.v (.int .i64 b))]] _ _
 have hM := most7_s
 have hEn := end_s t hz
 obtain ⟨ea, eb, hen⟩ := enR_e t
 rw [hen] at hEn
 refine fnI fun w0 A => ?_
 refine G [23] ?_
 refine cK hM ?_
 refine G [34] ?_
 skip
 refine G [1, 1, 3] ?_
 skip
 refine G [3] ?_
 by_cases hn : n ≠ 0
 ·rw [if_pos (show seF ⟨7, t, n, a, b⟩ by simp [seF, isT, isN, isC, *])] at hE
  exact jcb
 replace hn : n = 0 := Decidable.not_not.1 hn
 refine G [16, 3, 9] ?_
 refine jcF ?_
 refine jcJ ?_
 refine cX (fun h => ?_) fun h => ?_
 ·have hq : ¬ (a = 0 ∧ b = 0) := by
   simp only [zbj] at h
   simp at h
   omega
  rw [if_pos (show seF ⟨7, t, n, a, b⟩ by simp [seF, isT, isN, isC]; omega)] at hE
  subst hE
  refine jct ?_
  exact yE
 have hq : a = 0 ∧ b = 0 := by
  simp only [zbj] at h
  simp at h
  omega
 clear h
 rw [if_neg (show ¬ seF ⟨7, t, n, a, b⟩ by simp [seF, isT, isN, isC, *])] at hE
 rw [seV_7] at hE
 refine G [15] ?_
 skip
 refine G [13, 1, 3] ?_
 subst hE
 refine G [4] ?_
 refine cV hEn ?_
 refine G [14, 9, 0] ?_
 exact yE
theorem check8_s (t : ByteArray) (n a b : Int) (ok : SE.OK ⟨8, t, n, a, b⟩) : Fn prog 61 [.agg (SE.cells ⟨8, t, n, a, b⟩)] (.p (.v (.int .i64 (seE ⟨8, t, n, a, b⟩)))) [] := by
 obtain ⟨hz, hn0, hn1, ha0, ha1⟩ := ok
 dsimp only at hz hn0 hn1 ha0 ha1
 obtain ⟨E, hE⟩ : ∃ E, seE ⟨8, t, n, a, b⟩ = E := ⟨_, rfl⟩
 rw [hE]
 unfold seE at hE
 rw [if_neg (by dsimp only; decide)] at hE
 show Fn prog _ [.agg [.p (.v (.int .i64 8)), .p (.v (.string t)), .p (.v (.int .i64 n)), .p (.v (.int .u32 a)), .p (.v (.int .i64 b))]] _ _
 have hM := mostN_s 8 (by decide)
 refine fnI fun w0 A => ?_
 refine G [23] ?_
 refine cK hM ?_
 refine G [34] ?_
 skip
 refine G [5] ?_
 by_cases ht : t ≠ ⟨#[]⟩
 ·rw [if_pos (show seF ⟨8, t, n, a, b⟩ by simp [seF, isT, isN, isC, *])] at hE
  exact jbD
 replace ht : t = ⟨#[]⟩ := Decidable.not_not.1 ht
 refine G [9, 3, 17] ?_
 refine jcF ?_
 refine jcJ ?_
 refine cX (fun h => ?_) fun h => ?_
 ·have hq : ¬ (a = 0 ∧ b = 0) := by
   simp only [zbj] at h
   simp at h
   omega
  rw [if_pos (show seF ⟨8, t, n, a, b⟩ by simp [seF, isT, isN, isC]; omega)] at hE
  subst hE
  refine jct ?_
  exact yE
 have hq : a = 0 ∧ b = 0 := by
  simp only [zbj] at h
  simp at h
  omega
 clear h
 rw [if_neg (show ¬ seF ⟨8, t, n, a, b⟩ by simp [seF, isT, isN, isC, *])] at hE
 rw [seV_8] at hE
 refine G [15] ?_
 skip
 refine G [23] ?_
 by_cases hl : n < 0
 ·rw [if_pos (.inl hl)] at hE
  subst hE
  refine G [8, 4, 16, 9, 0] ?_
  exact yE
 refine G [8, 3, 5] ?_
 (first | refine zcb rfl ?_ | refine zbO (fun n => 102 + 1000 * n) (hM) rfl rfl func97 rfl rfl (by first | rfl | simp [AV.okInL, AV.okIn, zay]) rfl rfl rfl (by first | exact trivial | exact ⟨rfl, trivial⟩ | exact ⟨rfl, rfl, trivial⟩ | exact ⟨rfl, rfl, rfl, rfl, rfl, trivial⟩) rfl rfl rfl ?_)
 refine G [4, 9, 0] ?_
 refine cX (fun h => ?_) fun h => ?_
 ·exact jbu
 have h1 : ¬ 65535 < n := by simpa using h
 clear h
 rw [if_neg (by omega)] at hE
 subst hE
 refine jcs ?_
 exact yE
theorem check9_s (t : ByteArray) (n a b : Int) (ok : SE.OK ⟨9, t, n, a, b⟩) : Fn prog 61 [.agg (SE.cells ⟨9, t, n, a, b⟩)] (.p (.v (.int .i64 (seE ⟨9, t, n, a, b⟩)))) [] := by
 obtain ⟨hz, hn0, hn1, ha0, ha1⟩ := ok
 dsimp only at hz hn0 hn1 ha0 ha1
 obtain ⟨E, hE⟩ : ∃ E, seE ⟨9, t, n, a, b⟩ = E := ⟨_, rfl⟩
 rw [hE]
 unfold seE at hE
 rw [if_neg (by dsimp only; decide)] at hE
 show Fn prog _ [.agg [.p (.v (.int .i64 9)), .p (.v (.string t)), .p (.v (.int .i64 n)), .p (.v (.int .u32 a)), .p (.v (.int .i64 b))]] _ _
 have hM := most9_s
 refine fnI fun w0 A => ?_
 refine G [23] ?_
 refine cK hM ?_
 refine G [34] ?_
 skip
 refine G [5] ?_
 by_cases ht : t ≠ ⟨#[]⟩
 ·rw [if_pos (show seF ⟨9, t, n, a, b⟩ by simp [seF, isT, isN, isC, *])] at hE
  exact jbD
 replace ht : t = ⟨#[]⟩ := Decidable.not_not.1 ht
 by_cases hn : n ≠ 0
 ·rw [if_pos (show seF ⟨9, t, n, a, b⟩ by simp [seF, isT, isN, isC, *])] at hE
  exact jb4
 replace hn : n = 0 := Decidable.not_not.1 hn
 refine G [9, 3, 7, 3, 9] ?_
 refine jcF ?_
 refine jcJ ?_
 refine cX (fun h => ?_) fun h => ?_
 ·have hq : ¬ (a = 0 ∧ b = 0) := by
   simp only [zbj] at h
   simp at h
   omega
  rw [if_pos (show seF ⟨9, t, n, a, b⟩ by simp [seF, isT, isN, isC]; omega)] at hE
  subst hE
  refine jct ?_
  exact yE
 have hq : a = 0 ∧ b = 0 := by
  simp only [zbj] at h
  simp at h
  omega
 clear h
 rw [if_neg (show ¬ seF ⟨9, t, n, a, b⟩ by simp [seF, isT, isN, isC, *])] at hE
 rw [seV_9] at hE
 refine G [15] ?_
 skip
 refine G [23] ?_
 subst hE
 refine G [26, 9, 0] ?_
 exact yE
theorem check10_s (t : ByteArray) (n a b : Int) (ok : SE.OK ⟨10, t, n, a, b⟩) : Fn prog 61 [.agg (SE.cells ⟨10, t, n, a, b⟩)] (.p (.v (.int .i64 (seE ⟨10, t, n, a, b⟩)))) [] := by
 obtain ⟨hz, hn0, hn1, ha0, ha1⟩ := ok
 dsimp only at hz hn0 hn1 ha0 ha1
 obtain ⟨E, hE⟩ : ∃ E, seE ⟨10, t, n, a, b⟩ = E := ⟨_, rfl⟩
 rw [hE]
 unfold seE at hE
 rw [if_neg (by dsimp only; decide)] at hE
 show Fn prog _ [.agg [.p (.v (.int .i64 10)), .p (.v (.string t)), .p (.v (.int .i64 n)), .p (.v (.int .u32 a)), .p (.v (.int .i64 b))]] _ _
 have hM := most10_s
 have hC := zfp a b ha0 ha1
 change Fn prog _ [.agg [.p (.v (.int .u32 a)), .p (.v (.int .i64 b))]] _ _ at hC
 refine fnI fun w0 A => ?_
 refine G [23] ?_
 refine cK hM ?_
 refine G [34] ?_
 skip
 refine G [5] ?_
 by_cases ht : t ≠ ⟨#[]⟩
 ·rw [if_pos (show seF ⟨10, t, n, a, b⟩ by simp [seF, isT, isN, isC, *])] at hE
  exact jbD
 replace ht : t = ⟨#[]⟩ := Decidable.not_not.1 ht
 by_cases hn : n ≠ 0
 ·rw [if_pos (show seF ⟨10, t, n, a, b⟩ by simp [seF, isT, isN, isC, *])] at hE
  exact jb4
 replace hn : n = 0 := Decidable.not_not.1 hn
 refine G [9, 3, 7, 3, 14] ?_
 rw [if_neg (show ¬ seF ⟨10, t, n, a, b⟩ by simp [seF, isT, isN, isC, *])] at hE
 rw [seV_10] at hE
 refine G [15] ?_
 skip
 refine G [19, 1, 3] ?_
 subst hE
 refine G [4] ?_
 refine cV hC ?_
 refine jcJ ?_
 exact yE
theorem checkBad_s (s : SE) (hk : s.k < 1 ∨ 10 < s.k) : Fn prog 61 [.agg s.cells] (.p (.v (.int .i64 (seE s)))) [] := by
 exact jaR
theorem check_s (s : SE) (ok : s.OK) : Fn prog 61 [.agg s.cells] (.p (.v (.int .i64 (seE s)))) [] := by
 by_cases hk : s.k < 1 ∨ 10 < s.k
 ·exact checkBad_s s hk
 obtain ⟨k, t, n, a, b⟩ := s
 dsimp only at hk
 have : k = 1 ∨ k = 2 ∨ k = 3 ∨ k = 4 ∨ k = 5 ∨ k = 6 ∨ k = 7 ∨ k = 8 ∨ k = 9 ∨ k = 10 := by omega
 rcases this with rfl | rfl | rfl | rfl | rfl | rfl | rfl | rfl | rfl | rfl
 ·exact check1_s t n a b ok
 ·exact check2_s t n a b ok
 ·exact check3_s t n a b ok
 ·exact check4_s t n a b ok
 ·exact check5_s t n a b ok
 ·exact check6_s t n a b ok
 ·exact check7_s t n a b ok
 ·exact check8_s t n a b ok
 ·exact check9_s t n a b ok
 ·exact check10_s t n a b ok
end Go.Proofs.YtbjdjclkbjpebaaGreatDoor
