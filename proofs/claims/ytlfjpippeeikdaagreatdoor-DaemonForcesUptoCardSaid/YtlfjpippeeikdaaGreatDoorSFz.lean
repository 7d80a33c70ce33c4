/- batch.Check and the reference's SettingFault, kind by kind, over data. (Printed by wip/mkbt.py.) -/
import Derived.Test.YtlfjpippeeikdaaGreatDoorSCf1
set_option linter.all false
namespace Go.Proofs.YtlfjpippeeikdaaGreatDoor
open Tryz
open Go.RowKit Go.Sort
set_option maxHeartbeats 16000000
set_option maxRecDepth 100000
structure SE where
 k : Int
 t : ByteArray
 n : Int
 a : Int
 b : Int
def SE.cells (s : SE) : List AV := [qd s.k, qc s.t, qd s.n, qe s.a, qd s.b]
def SE.pv (s : SE) : List PV := [qh s.k, qg s.t, qh s.n, qi s.a, qh s.b]
structure SE.OK (s : SE) : Prop where
 t : s.t.size < 4294967281
 n0 : -9223372036854775808 ≤ s.n
 n1 : s.n ≤ 9223372036854775807
 a0 : 0 ≤ s.a
 a1 : s.a < 4294967296
def isT (k : Int) : Bool := k == 1 || k == 4 || k == 6 || k == 7
def isN (k : Int) : Bool := k == 2 || k == 8
def isC (k : Int) : Bool := k == 10
def seF (s : SE) : Prop := (isT s.k = false ∧ s.t ≠ ⟨#[]⟩) ∨ (isN s.k = false ∧ s.n ≠ 0) ∨ (isC s.k = false ∧ ¬ (s.a = 0 ∧ s.b = 0))
instance seF_dec (s : SE) : Decidable (seF s) := by unfold seF; infer_instance
def seV (s : SE) : Int :=
 if isN s.k = true then (if s.n < 0 ∨ 65535 < s.n then 4 else 0)
 else if isC s.k = true then zap s.a s.b
 else if s.k = 7 then enE s.t
 else if s.k = 6 then (if s.t = ⟨#[]⟩ then 0 else if s.t = zgh then 3 else keyE s.t)
 else if isT s.k = true then keyE s.t else 0
def seE (s : SE) : Int := if s.k < 1 ∨ 10 < s.k then 2 else if seF s then 3 else seV s
theorem zbf (a b : Int) : eqL [.int .u32 a, .int .i64 b] [.int .u32 0, .int .i64 0] = (a == 0 && b == 0) := by
 rw [qbm, zaP]
 simp
theorem seV_1 (t : ByteArray) (n a b : Int) : seV ⟨1, t, n, a, b⟩ = (keyE t) := by simp [seV, isN, isC, isT]
theorem seV_2 (t : ByteArray) (n a b : Int) : seV ⟨2, t, n, a, b⟩ = (if n < 0 ∨ 65535 < n then 4 else 0) := by simp [seV, isN, isC, isT]
theorem seV_3 (t : ByteArray) (n a b : Int) : seV ⟨3, t, n, a, b⟩ = (0) := by simp [seV, isN, isC, isT]
theorem seV_4 (t : ByteArray) (n a b : Int) : seV ⟨4, t, n, a, b⟩ = (keyE t) := by simp [seV, isN, isC, isT]
theorem seV_5 (t : ByteArray) (n a b : Int) : seV ⟨5, t, n, a, b⟩ = (0) := by simp [seV, isN, isC, isT]
theorem seV_6 (t : ByteArray) (n a b : Int) : seV ⟨6, t, n, a, b⟩ = (if t = ⟨#[]⟩ then 0 else if t = zgh then 3 else keyE t) := by simp [seV, isN, isC, isT]
theorem seV_7 (t : ByteArray) (n a b : Int) : seV ⟨7, t, n, a, b⟩ = (enE t) := by simp [seV, isN, isC, isT]
theorem seV_8 (t : ByteArray) (n a b : Int) : seV ⟨8, t, n, a, b⟩ = (if n < 0 ∨ 65535 < n then 4 else 0) := by simp [seV, isN, isC, isT]
theorem seV_9 (t : ByteArray) (n a b : Int) : seV ⟨9, t, n, a, b⟩ = (0) := by simp [seV, isN, isC, isT]
theorem seV_10 (t : ByteArray) (n a b : Int) : seV ⟨10, t, n, a, b⟩ = (zap a b) := by simp [seV, isN, isC, isT]
theorem mostN_s (k : Int) (hk : k = 2 ∨ k = 8) : Fn prog 107 [qd k] (qd 65535) [] := by
 rcases hk with rfl | rfl
 ·refine fnI fun w0 A => ?_
  refine G [12, 1, 8, 9, 0] ?_
  exact yE
 ·refine fnI fun w0 A => ?_
  refine G [18, 1, 8, 9, 0] ?_
  exact yE
theorem most1_s : Fn prog 107 [qd 1] (qd (-1)) [] := by
 exact jbg
theorem most3_s : Fn prog 107 [qd 3] (qd (-1)) [] := by
 exact jbg
theorem most4_s : Fn prog 107 [qd 4] (qd (-1)) [] := by
 exact jbg
theorem most5_s : Fn prog 107 [qd 5] (qd (-1)) [] := by
 exact jbg
theorem most6_s : Fn prog 107 [qd 6] (qd (-1)) [] := by
 exact jbg
theorem most7_s : Fn prog 107 [qd 7] (qd (-1)) [] := by
 exact jbg
theorem most9_s : Fn prog 107 [qd 9] (qd (-1)) [] := by
 exact jbg
theorem most10_s : Fn prog 107 [qd 10] (qd (-1)) [] := by
 exact jbg
theorem check1_s (t : ByteArray) (n a b : Int) (ok : SE.OK ⟨1, t, n, a, b⟩) : Fn prog 72 [.agg (SE.cells ⟨1, t, n, a, b⟩)] (qd (seE ⟨1, t, n, a, b⟩)) [] := by
 obtain ⟨hz, hn0, hn1, ha0, ha1⟩ := ok
 dsimp only at hz hn0 hn1 ha0 ha1
 obtain ⟨E, hE⟩ : ∃ E, seE ⟨1, t, n, a, b⟩ = E := ⟨_, rfl⟩
 rw [hE]
 unfold seE at hE
 rw [if_neg (by dsimp only; decide)] at hE
 show Fn prog _ [.agg [qd 1, qc t, qd n, qe a, qd b]] _ _
 have hM := most1_s
 have hH := zbW t
 refine fnI fun w0 A => ?_
 refine G [23] ?_
 refine cK hM ?_
 refine G [18, 1, 5] ?_
 skip
 refine G [3] ?_
 by_cases hn : n ≠ 0
 ·rw [if_pos (show seF ⟨1, t, n, a, b⟩ by simp [seF, isT, isN, isC, *])] at hE
  exact jcs
 replace hn : n = 0 := qaH.1 hn
 refine G [16, 3, 9] ?_
 refine jdb ?_
 refine jdc ?_
 refine cX ?_ ?_ <;> intro h
 ·have hq : ¬ (a = 0 ∧ b = 0) := by
   simp only [zbf] at h
   simp at h
   omega
  rw [if_pos (show seF ⟨1, t, n, a, b⟩ by simp [seF, isT, isN, isC]; omega)] at hE
  subst hE
  refine jcQ ?_
  exact yE
 have hq : a = 0 ∧ b = 0 := by
  simp only [zbf] at h
  simp at h
  omega
 clear h
 rw [if_neg (show ¬ seF ⟨1, t, n, a, b⟩ by simp [seF, isT, isN, isC, *])] at hE
 rw [seV_1] at hE
 refine G [11, 1, 5] ?_
 subst hE
 refine G [4] ?_
 refine cV hH ?_
 refine jdc ?_
 exact yE
theorem check2_s (t : ByteArray) (n a b : Int) (ok : SE.OK ⟨2, t, n, a, b⟩) : Fn prog 72 [.agg (SE.cells ⟨2, t, n, a, b⟩)] (qd (seE ⟨2, t, n, a, b⟩)) [] := by
 obtain ⟨hz, hn0, hn1, ha0, ha1⟩ := ok
 dsimp only at hz hn0 hn1 ha0 ha1
 obtain ⟨E, hE⟩ : ∃ E, seE ⟨2, t, n, a, b⟩ = E := ⟨_, rfl⟩
 rw [hE]
 unfold seE at hE
 rw [if_neg (by dsimp only; decide)] at hE
 show Fn prog _ [.agg [qd 2, qc t, qd n, qe a, qd b]] _ _
 have hM := mostN_s 2 qw
 refine fnI fun w0 A => ?_
 refine G [23] ?_
 refine cK hM ?_
 refine G [34] ?_
 skip
 refine G [5] ?_
 by_cases ht : t ≠ ⟨#[]⟩
 ·rw [if_pos (show seF ⟨2, t, n, a, b⟩ by simp [seF, isT, isN, isC, *])] at hE
  exact jbR
 replace ht : t = ⟨#[]⟩ := qaH.1 ht
 refine G [9, 3, 17] ?_
 refine jdb ?_
 refine jdc ?_
 refine cX ?_ ?_ <;> intro h
 ·have hq : ¬ (a = 0 ∧ b = 0) := by
   simp only [zbf] at h
   simp at h
   omega
  rw [if_pos (show seF ⟨2, t, n, a, b⟩ by simp [seF, isT, isN, isC]; omega)] at hE
  subst hE
  refine jcQ ?_
  exact yE
 have hq : a = 0 ∧ b = 0 := by
  simp only [zbf] at h
  simp at h
  omega
 clear h
 rw [if_neg (show ¬ seF ⟨2, t, n, a, b⟩ by simp [seF, isT, isN, isC, *])] at hE
 rw [seV_2] at hE
 refine G [15] ?_
 skip
 refine G [23] ?_
 by_cases hl : n < 0
 ·rw [if_pos (.inl hl)] at hE
  subst hE
  refine G [8, 4, 16, 9, 0] ?_
  exact yE
 refine G [8, 3, 5] ?_
 (first | refine zb4 rfl ?_ | refine zaM (fun n => 102 + 1000 * n) (hM) rfl rfl func107 rfl rfl qr rfl rfl rfl ql rfl rfl rfl ?_)
 refine G [4, 9, 0] ?_
 refine cX ?_ ?_ <;> intro h
 ·exact jbM
 have h1 : ¬ 65535 < n := by simpa using h
 clear h
 rw [if_neg (by omega)] at hE
 subst hE
 refine jcV ?_
 exact yE
theorem check3_s (t : ByteArray) (n a b : Int) (ok : SE.OK ⟨3, t, n, a, b⟩) : Fn prog 72 [.agg (SE.cells ⟨3, t, n, a, b⟩)] (qd (seE ⟨3, t, n, a, b⟩)) [] := by
 obtain ⟨hz, hn0, hn1, ha0, ha1⟩ := ok
 dsimp only at hz hn0 hn1 ha0 ha1
 obtain ⟨E, hE⟩ : ∃ E, seE ⟨3, t, n, a, b⟩ = E := ⟨_, rfl⟩
 rw [hE]
 unfold seE at hE
 rw [if_neg (by dsimp only; decide)] at hE
 show Fn prog _ [.agg [qd 3, qc t, qd n, qe a, qd b]] _ _
 have hM := most3_s
 refine fnI fun w0 A => ?_
 refine G [23] ?_
 refine cK hM ?_
 refine G [34] ?_
 skip
 refine G [5] ?_
 by_cases ht : t ≠ ⟨#[]⟩
 ·rw [if_pos (show seF ⟨3, t, n, a, b⟩ by simp [seF, isT, isN, isC, *])] at hE
  exact jbR
 replace ht : t = ⟨#[]⟩ := qaH.1 ht
 by_cases hn : n ≠ 0
 ·rw [if_pos (show seF ⟨3, t, n, a, b⟩ by simp [seF, isT, isN, isC, *])] at hE
  exact jcj
 replace hn : n = 0 := qaH.1 hn
 refine G [9, 3, 7, 3, 9] ?_
 refine jdb ?_
 refine jdc ?_
 refine cX ?_ ?_ <;> intro h
 ·have hq : ¬ (a = 0 ∧ b = 0) := by
   simp only [zbf] at h
   simp at h
   omega
  rw [if_pos (show seF ⟨3, t, n, a, b⟩ by simp [seF, isT, isN, isC]; omega)] at hE
  subst hE
  refine jcQ ?_
  exact yE
 have hq : a = 0 ∧ b = 0 := by
  simp only [zbf] at h
  simp at h
  omega
 clear h
 rw [if_neg (show ¬ seF ⟨3, t, n, a, b⟩ by simp [seF, isT, isN, isC, *])] at hE
 rw [seV_3] at hE
 refine G [15] ?_
 skip
 refine G [23] ?_
 subst hE
 refine G [26, 9, 0] ?_
 exact yE
theorem check4_s (t : ByteArray) (n a b : Int) (ok : SE.OK ⟨4, t, n, a, b⟩) : Fn prog 72 [.agg (SE.cells ⟨4, t, n, a, b⟩)] (qd (seE ⟨4, t, n, a, b⟩)) [] := by
 obtain ⟨hz, hn0, hn1, ha0, ha1⟩ := ok
 dsimp only at hz hn0 hn1 ha0 ha1
 obtain ⟨E, hE⟩ : ∃ E, seE ⟨4, t, n, a, b⟩ = E := ⟨_, rfl⟩
 rw [hE]
 unfold seE at hE
 rw [if_neg (by dsimp only; decide)] at hE
 show Fn prog _ [.agg [qd 4, qc t, qd n, qe a, qd b]] _ _
 have hM := most4_s
 have hH := zbW t
 refine fnI fun w0 A => ?_
 refine G [23] ?_
 refine cK hM ?_
 refine G [24, 1, 5] ?_
 skip
 refine G [3] ?_
 by_cases hn : n ≠ 0
 ·rw [if_pos (show seF ⟨4, t, n, a, b⟩ by simp [seF, isT, isN, isC, *])] at hE
  exact jcs
 replace hn : n = 0 := qaH.1 hn
 refine G [16, 3, 9] ?_
 refine jdb ?_
 refine jdc ?_
 refine cX ?_ ?_ <;> intro h
 ·have hq : ¬ (a = 0 ∧ b = 0) := by
   simp only [zbf] at h
   simp at h
   omega
  rw [if_pos (show seF ⟨4, t, n, a, b⟩ by simp [seF, isT, isN, isC]; omega)] at hE
  subst hE
  refine jcQ ?_
  exact yE
 have hq : a = 0 ∧ b = 0 := by
  simp only [zbf] at h
  simp at h
  omega
 clear h
 rw [if_neg (show ¬ seF ⟨4, t, n, a, b⟩ by simp [seF, isT, isN, isC, *])] at hE
 rw [seV_4] at hE
 refine G [15] ?_
 skip
 refine G [1, 1, 3] ?_
 subst hE
 refine G [4] ?_
 refine cV hH ?_
 refine jdc ?_
 exact yE
theorem check5_s (t : ByteArray) (n a b : Int) (ok : SE.OK ⟨5, t, n, a, b⟩) : Fn prog 72 [.agg (SE.cells ⟨5, t, n, a, b⟩)] (qd (seE ⟨5, t, n, a, b⟩)) [] := by
 obtain ⟨hz, hn0, hn1, ha0, ha1⟩ := ok
 dsimp only at hz hn0 hn1 ha0 ha1
 obtain ⟨E, hE⟩ : ∃ E, seE ⟨5, t, n, a, b⟩ = E := ⟨_, rfl⟩
 rw [hE]
 unfold seE at hE
 rw [if_neg (by dsimp only; decide)] at hE
 show Fn prog _ [.agg [qd 5, qc t, qd n, qe a, qd b]] _ _
 have hM := most5_s
 refine fnI fun w0 A => ?_
 refine G [23] ?_
 refine cK hM ?_
 refine G [34] ?_
 skip
 refine G [5] ?_
 by_cases ht : t ≠ ⟨#[]⟩
 ·rw [if_pos (show seF ⟨5, t, n, a, b⟩ by simp [seF, isT, isN, isC, *])] at hE
  exact jbR
 replace ht : t = ⟨#[]⟩ := qaH.1 ht
 by_cases hn : n ≠ 0
 ·rw [if_pos (show seF ⟨5, t, n, a, b⟩ by simp [seF, isT, isN, isC, *])] at hE
  exact jcj
 replace hn : n = 0 := qaH.1 hn
 refine G [9, 3, 7, 3, 9] ?_
 refine jdb ?_
 refine jdc ?_
 refine cX ?_ ?_ <;> intro h
 ·have hq : ¬ (a = 0 ∧ b = 0) := by
   simp only [zbf] at h
   simp at h
   omega
  rw [if_pos (show seF ⟨5, t, n, a, b⟩ by simp [seF, isT, isN, isC]; omega)] at hE
  subst hE
  refine jcQ ?_
  exact yE
 have hq : a = 0 ∧ b = 0 := by
  simp only [zbf] at h
  simp at h
  omega
 clear h
 rw [if_neg (show ¬ seF ⟨5, t, n, a, b⟩ by simp [seF, isT, isN, isC, *])] at hE
 rw [seV_5] at hE
 refine G [15] ?_
 skip
 refine G [23] ?_
 subst hE
 refine G [26, 9, 0] ?_
 exact yE
theorem check6_s (t : ByteArray) (n a b : Int) (ok : SE.OK ⟨6, t, n, a, b⟩) : Fn prog 72 [.agg (SE.cells ⟨6, t, n, a, b⟩)] (qd (seE ⟨6, t, n, a, b⟩)) [] := by
 obtain ⟨hz, hn0, hn1, ha0, ha1⟩ := ok
 dsimp only at hz hn0 hn1 ha0 ha1
 obtain ⟨E, hE⟩ : ∃ E, seE ⟨6, t, n, a, b⟩ = E := ⟨_, rfl⟩
 rw [hE]
 unfold seE at hE
 rw [if_neg (by dsimp only; decide)] at hE
 show Fn prog _ [.agg [qd 6, qc t, qd n, qe a, qd b]] _ _
 have hM := most6_s
 have hH := zbW t
 have hZ := zie
 refine fnI fun w0 A => ?_
 refine G [23] ?_
 refine cK hM ?_
 refine G [30, 1, 5] ?_
 skip
 refine G [3] ?_
 by_cases hn : n ≠ 0
 ·rw [if_pos (show seF ⟨6, t, n, a, b⟩ by simp [seF, isT, isN, isC, *])] at hE
  exact jcs
 replace hn : n = 0 := qaH.1 hn
 refine G [16, 3, 9] ?_
 refine jdb ?_
 refine jdc ?_
 refine cX ?_ ?_ <;> intro h
 ·have hq : ¬ (a = 0 ∧ b = 0) := by
   simp only [zbf] at h
   simp at h
   omega
  rw [if_pos (show seF ⟨6, t, n, a, b⟩ by simp [seF, isT, isN, isC]; omega)] at hE
  subst hE
  refine jcQ ?_
  exact yE
 have hq : a = 0 ∧ b = 0 := by
  simp only [zbf] at h
  simp at h
  omega
 clear h
 rw [if_neg (show ¬ seF ⟨6, t, n, a, b⟩ by simp [seF, isT, isN, isC, *])] at hE
 rw [seV_6] at hE
 refine G [15] ?_
 skip
 refine G [7, 1, 10, 9, 0] ?_
 refine cX ?_ ?_ <;> intro h
 ·have h1 : t = ⟨#[]⟩ := by simpa using h
  exact jbK
 have h1 : ¬ t = ⟨#[]⟩ := by simpa using h
 clear h
 rw [if_neg h1] at hE
 refine G [6] ?_
 refine cK hZ ?_
 refine G [2, 9, 0] ?_
 refine cX ?_ ?_ <;> intro h
 ·have h2 : t = zgh := by simpa using h
  rw [if_pos h2] at hE
  subst hE
  refine jcQ ?_
  exact yE
 have h2 : ¬ t = zgh := by simpa using h
 rw [if_neg h2] at hE
 subst hE
 refine G [5] ?_
 refine cV hH ?_
 refine jdc ?_
 exact yE
theorem check7_s (t : ByteArray) (n a b : Int) (ok : SE.OK ⟨7, t, n, a, b⟩) : Fn prog 72 [.agg (SE.cells ⟨7, t, n, a, b⟩)] (qd (seE ⟨7, t, n, a, b⟩)) [] := by
 obtain ⟨hz, hn0, hn1, ha0, ha1⟩ := ok
 dsimp only at hz hn0 hn1 ha0 ha1
 obtain ⟨E, hE⟩ : ∃ E, seE ⟨7, t, n, a, b⟩ = E := ⟨_, rfl⟩
 rw [hE]
 unfold seE at hE
 rw [if_neg (by dsimp only; decide)] at hE
 show Fn prog _ [.agg [qd 7, qc t, qd n, qe a, qd b]] _ _
 have hM := most7_s
 have hEn := end_s t hz
 obtain ⟨ea, eb, hen⟩ := enR_e t
 rw [hen] at hEn
 refine fnI fun w0 A => ?_
 refine G [23] ?_
 refine cK hM ?_
 refine G [34] ?_
 skip
 refine G [1, 1, 3] ?_
 skip
 refine G [3] ?_
 by_cases hn : n ≠ 0
 ·rw [if_pos (show seF ⟨7, t, n, a, b⟩ by simp [seF, isT, isN, isC, *])] at hE
  exact jcs
 replace hn : n = 0 := qaH.1 hn
 refine G [16, 3, 9] ?_
 refine jdb ?_
 refine jdc ?_
 refine cX ?_ ?_ <;> intro h
 ·have hq : ¬ (a = 0 ∧ b = 0) := by
   simp only [zbf] at h
   simp at h
   omega
  rw [if_pos (show seF ⟨7, t, n, a, b⟩ by simp [seF, isT, isN, isC]; omega)] at hE
  subst hE
  refine jcQ ?_
  exact yE
 have hq : a = 0 ∧ b = 0 := by
  simp only [zbf] at h
  simp at h
  omega
 clear h
 rw [if_neg (show ¬ seF ⟨7, t, n, a, b⟩ by simp [seF, isT, isN, isC, *])] at hE
 rw [seV_7] at hE
 refine G [15] ?_
 skip
 refine G [13, 1, 3] ?_
 subst hE
 refine G [4] ?_
 refine cV hEn ?_
 refine G [14, 9, 0] ?_
 exact yE
theorem check8_s (t : ByteArray) (n a b : Int) (ok : SE.OK ⟨8, t, n, a, b⟩) : Fn prog 72 [.agg (SE.cells ⟨8, t, n, a, b⟩)] (qd (seE ⟨8, t, n, a, b⟩)) [] := by
 obtain ⟨hz, hn0, hn1, ha0, ha1⟩ := ok
 dsimp only at hz hn0 hn1 ha0 ha1
 obtain ⟨E, hE⟩ : ∃ E, seE ⟨8, t, n, a, b⟩ = E := ⟨_, rfl⟩
 rw [hE]
 unfold seE at hE
 rw [if_neg (by dsimp only; decide)] at hE
 show Fn prog _ [.agg [qd 8, qc t, qd n, qe a, qd b]] _ _
 have hM := mostN_s 8 qw
 refine fnI fun w0 A => ?_
 refine G [23] ?_
 refine cK hM ?_
 refine G [34] ?_
 skip
 refine G [5] ?_
 by_cases ht : t ≠ ⟨#[]⟩
 ·rw [if_pos (show seF ⟨8, t, n, a, b⟩ by simp [seF, isT, isN, isC, *])] at hE
  exact jbR
 replace ht : t = ⟨#[]⟩ := qaH.1 ht
 refine G [9, 3, 17] ?_
 refine jdb ?_
 refine jdc ?_
 refine cX ?_ ?_ <;> intro h
 ·have hq : ¬ (a = 0 ∧ b = 0) := by
   simp only [zbf] at h
   simp at h
   omega
  rw [if_pos (show seF ⟨8, t, n, a, b⟩ by simp [seF, isT, isN, isC]; omega)] at hE
  subst hE
  refine jcQ ?_
  exact yE
 have hq : a = 0 ∧ b = 0 := by
  simp only [zbf] at h
  simp at h
  omega
 clear h
 rw [if_neg (show ¬ seF ⟨8, t, n, a, b⟩ by simp [seF, isT, isN, isC, *])] at hE
 rw [seV_8] at hE
 refine G [15] ?_
 skip
 refine G [23] ?_
 by_cases hl : n < 0
 ·rw [if_pos (.inl hl)] at hE
  subst hE
  refine G [8, 4, 16, 9, 0] ?_
  exact yE
 refine G [8, 3, 5] ?_
 (first | refine zb4 rfl ?_ | refine zaM (fun n => 102 + 1000 * n) (hM) rfl rfl func107 rfl rfl qr rfl rfl rfl ql rfl rfl rfl ?_)
 refine G [4, 9, 0] ?_
 refine cX ?_ ?_ <;> intro h
 ·exact jbM
 have h1 : ¬ 65535 < n := by simpa using h
 clear h
 rw [if_neg (by omega)] at hE
 subst hE
 refine jcV ?_
 exact yE
theorem check9_s (t : ByteArray) (n a b : Int) (ok : SE.OK ⟨9, t, n, a, b⟩) : Fn prog 72 [.agg (SE.cells ⟨9, t, n, a, b⟩)] (qd (seE ⟨9, t, n, a, b⟩)) [] := by
 obtain ⟨hz, hn0, hn1, ha0, ha1⟩ := ok
 dsimp only at hz hn0 hn1 ha0 ha1
 obtain ⟨E, hE⟩ : ∃ E, seE ⟨9, t, n, a, b⟩ = E := ⟨_, rfl⟩
 rw [hE]
 unfold seE at hE
 rw [if_neg (by dsimp only; decide)] at hE
 show Fn prog _ [.agg [qd 9, qc t, qd n, qe a, qd b]] _ _
 have hM := most9_s
 refine fnI fun w0 A => ?_
 refine G [23] ?_
 refine cK hM ?_
 refine G [34] ?_
 skip
 refine G [5] ?_
 by_cases ht : t ≠ ⟨#[]⟩
 ·rw [if_pos (show seF ⟨9, t, n, a, b⟩ by simp [seF, isT, isN, isC, *])] at hE
  exact jbR
 replace ht : t = ⟨#[]⟩ := qaH.1 ht
 by_cases hn : n ≠ 0
 ·rw [if_pos (show seF ⟨9, t, n, a, b⟩ by simp [seF, isT, isN, isC, *])] at hE
  exact jcj
 replace hn : n = 0 := qaH.1 hn
 refine G [9, 3, 7, 3, 9] ?_
 refine jdb ?_
 refine jdc ?_
 refine cX ?_ ?_ <;> intro h
 ·have hq : ¬ (a = 0 ∧ b = 0) := by
   simp only [zbf] at h
   simp at h
   omega
  rw [if_pos (show seF ⟨9, t, n, a, b⟩ by simp [seF, isT, isN, isC]; omega)] at hE
  subst hE
  refine jcQ ?_
  exact yE
 have hq : a = 0 ∧ b = 0 := by
  simp only [zbf] at h
  simp at h
  omega
 clear h
 rw [if_neg (show ¬ seF ⟨9, t, n, a, b⟩ by simp [seF, isT, isN, isC, *])] at hE
 rw [seV_9] at hE
 refine G [15] ?_
 skip
 refine G [23] ?_
 subst hE
 refine G [26, 9, 0] ?_
 exact yE
theorem check10_s (t : ByteArray) (n a b : Int) (ok : SE.OK ⟨10, t, n, a, b⟩) : Fn prog 72 [.agg (SE.cells ⟨10, t, n, a, b⟩)] (qd (seE ⟨10, t, n, a, b⟩)) [] := by
 obtain ⟨hz, hn0, hn1, ha0, ha1⟩ := ok
 dsimp only at hz hn0 hn1 ha0 ha1
 obtain ⟨E, hE⟩ : ∃ E, seE ⟨10, t, n, a, b⟩ = E := ⟨_, rfl⟩
 rw [hE]
 unfold seE at hE
 rw [if_neg (by dsimp only; decide)] at hE
 show Fn prog _ [.agg [qd 10, qc t, qd n, qe a, qd b]] _ _
 have hM := most10_s
 have hC := zcK a b ha0 ha1
 change Fn prog _ [.agg [qe a, qd b]] _ _ at hC
 refine fnI fun w0 A => ?_
 refine G [23] ?_
 refine cK hM ?_
 refine G [34] ?_
 skip
 refine G [5] ?_
 by_cases ht : t ≠ ⟨#[]⟩
 ·rw [if_pos (show seF ⟨10, t, n, a, b⟩ by simp [seF, isT, isN, isC, *])] at hE
  exact jbR
 replace ht : t = ⟨#[]⟩ := qaH.1 ht
 by_cases hn : n ≠ 0
 ·rw [if_pos (show seF ⟨10, t, n, a, b⟩ by simp [seF, isT, isN, isC, *])] at hE
  exact jcj
 replace hn : n = 0 := qaH.1 hn
 refine G [9, 3, 7, 3, 14] ?_
 rw [if_neg (show ¬ seF ⟨10, t, n, a, b⟩ by simp [seF, isT, isN, isC, *])] at hE
 rw [seV_10] at hE
 refine G [15] ?_
 skip
 refine G [19, 1, 3] ?_
 subst hE
 refine G [4] ?_
 refine cV hC ?_
 refine jdc ?_
 exact yE
theorem checkBad_s (s : SE) (hk : s.k < 1 ∨ 10 < s.k) : Fn prog 72 [.agg s.cells] (qd (seE s)) [] := by
 exact jaY
theorem ze5 (s : SE) (ok : s.OK) : Fn prog 72 [.agg s.cells] (qd (seE s)) [] := by
 by_cases hk : s.k < 1 ∨ 10 < s.k
 ·exact checkBad_s s hk
 obtain ⟨k, t, n, a, b⟩ := s
 dsimp only at hk
 have : k = 1 ∨ k = 2 ∨ k = 3 ∨ k = 4 ∨ k = 5 ∨ k = 6 ∨ k = 7 ∨ k = 8 ∨ k = 9 ∨ k = 10 := qk
 rcases this with rfl | rfl | rfl | rfl | rfl | rfl | rfl | rfl | rfl | rfl
 ·exact check1_s t n a b ok
 ·exact check2_s t n a b ok
 ·exact check3_s t n a b ok
 ·exact check4_s t n a b ok
 ·exact check5_s t n a b ok
 ·exact check6_s t n a b ok
 ·exact check7_s t n a b ok
 ·exact check8_s t n a b ok
 ·exact check9_s t n a b ok
 ·exact check10_s t n a b ok
end Go.Proofs.YtlfjpippeeikdaaGreatDoor
namespace Go.Proofs.YtlfjpippeeikdaaGreatDoor
open Go.RowKit Go.Sort
def allP : List AV → Option (List PV)
 | [] => some []
 | .p x :: l => (allP l).map (x :: ·)
 | _ :: _ => none
theorem zgI : ∀ {xs : List AV} {cs : List PV}, allP xs = some cs → xs = cs.map AV.p
 | [], cs, h => by simp only [allP, Option.some.injEq] at h; subst h; rfl
 | a :: xs, cs, h => by
  cases a with
  | p x =>
   simp only [allP] at h
   cases hq : allP xs with
   | none => simp [hq] at h
   | some zs =>
    simp only [hq, qcc, Option.some.injEq] at h
    subst h
    simp [zgI hq]
  | _ => simp [allP] at h
structure Fz where
 o : Nat
 P : Option (List PV)
 R : Option PV
 V : Option (List PV)
mutual
def fzA (f : Fz) : AV → AV
 | .p x => .p x
 | .agg cs => .agg (fzL f cs)
 | .tup cs => .tup (fzL f cs)
 | .ptr cs => .ptr cs
 | .ref o off => match f.P with
  | some cs => bif (Nat.beq o f.o && Nat.beq off 0) then .p (.pt cs) else .ref o off
  | none => match f.V with
   | some cs => bif Nat.beq o f.o then .ptr (cs.drop off) else .ref o off
   | none => .ref o off
 | .row o => match f.R with
  | some x => bif Nat.beq o f.o then .p x else .row o
  | none => .row o
 | .psl o off n size => .psl o off n size
 | .pslc o n => .pslc o n
 | .fn g cs => .fn g (fzL f cs)
 | .mb b x => .mb b (fzA f x)
 | .sat p => .sat p
 | .mp o => .mp o
 | .any => .any
def fzL (f : Fz) : List AV → List AV
 | [] => []
 | c :: cs => fzA f c :: fzL f cs
end
def fzS (f : Fz) : Slot → Slot
 | .live (.box ty cs) => .live (.box ty (fzL f cs))
 | .live (.rowA e size n c cs) => .live (.rowA e size n c (fzL f cs))
 | s => s
def St.fz (st : St) (f : Fz) : St := ⟨fun t => fzA f (st.tmps t), fun o => bif Nat.beq o f.o then .dead else fzS f (st.heap o)⟩
section
variable {S S' : Nat → Prop} {m : Nat → Option Value} {w : World} {f : Fz} {v0 : Value}
mutual
theorem fzA_rep (hs : ∀ b, S b → S' b) (hm : m f.o = some v0) (hP : ∀ cs b, f.P = some cs → blk v0 = some b → PRep S' w (.pt cs) (.pointer (some ⟨b, 0, none⟩))) (hR : ∀ x, f.R = some x → PRep S' w x v0) (hV : ∀ cs b, f.V = some cs → blk v0 = some b → PRep S' w (.pt cs) (.pointer (some ⟨b, 0, none⟩))) : ∀ (x : AV) (u : Value), Rep S m w x u → Rep S' m w (fzA f x) u
 | .p x, u, h => by simp only [fzA, Rep] at h ⊢; exact PRep.mono hs (fun _ _ => rfl) _ _ h
 | .agg cs, u, h => by
  simp only [fzA, Rep] at h ⊢
  obtain ⟨us, h1, h2, h3⟩ := h
  exact ⟨us, h1, zf7 hs hm hP hR hV cs us h2, h3⟩
 | .tup cs, u, h => by
  simp only [fzA, Rep] at h ⊢
  obtain ⟨us, h1, h2⟩ := h
  exact ⟨us, h1, zf7 hs hm hP hR hV cs us h2⟩
 | .ptr cs, u, h => by
  simp only [fzA, Rep] at h ⊢
  obtain ⟨b, off, vs, h1, h2, h3, h4⟩ := h
  exact ⟨b, off, vs, h1, hs b h2, PRepL.mono hs (fun _ _ => rfl) _ _ h3, h4⟩
 | .ref o off, u, h => by
  unfold fzA
  cases hq : f.P with
  | none =>
   simp only []
   cases hv : f.V with
   | none => simp only [Rep] at h ⊢; exact h
   | some cs =>
    simp only []
    cases hc : Nat.beq o f.o with
    | false => simp only [cond_false, Rep] at h ⊢; exact h
    | true =>
     have h1 : o = f.o := qaB hc
     subst h1
     simp only [cond_true, Rep] at h ⊢
     obtain ⟨b, v1, h3, h4, rfl⟩ := h
     rw [hm] at h3
     obtain rfl := Option.some.inj h3
     have h5 := hV cs b hv h4
     simp only [PRep] at h5
     obtain ⟨b', o', vs, e1, e2, e3, e4⟩ := h5
     simp only [Value.pointer.injEq, Option.some.injEq, Addr.mk.injEq] at e1
     obtain ⟨rfl, rfl, _⟩ := e1
     refine ⟨b, off, vs.drop off, rfl, e2, e3.drop off, fun j v hj => ?_⟩
     rw [qa8] at hj
     have := e4 _ v hj
     rwa [Nat.zero_add] at this
  | some cs =>
   simp only []
   cases hc : (Nat.beq o f.o && Nat.beq off 0) with
   | false => simp only [cond_false, Rep] at h ⊢; exact h
   | true =>
    simp only [qaT] at hc
    have h1 : o = f.o := qaB hc.1
    have h2 : off = 0 := qaB hc.2
    subst h1; subst h2
    simp only [cond_true, Rep] at h ⊢
    obtain ⟨b, v1, h3, h4, rfl⟩ := h
    rw [hm] at h3
    obtain rfl := Option.some.inj h3
    exact hP cs b hq h4
 | .row o, u, h => by
  unfold fzA
  cases hq : f.R with
  | none => simp only [Rep] at h ⊢; exact h
  | some x =>
   simp only []
   cases hc : Nat.beq o f.o with
   | false => simp only [cond_false, Rep] at h ⊢; exact h
   | true =>
    have h1 : o = f.o := qaB hc
    subst h1
    simp only [cond_true, Rep] at h ⊢
    have h3 := h.1
    rw [hm] at h3
    obtain rfl := Option.some.inj h3
    exact hR x hq
 | .psl o off n sz, u, h => by simp only [fzA, Rep] at h ⊢; exact h
 | .pslc o n, u, h => by simp only [fzA, Rep] at h ⊢; exact h
 | .fn g cs, u, h => by
  simp only [fzA, Rep] at h ⊢
  obtain ⟨us, h1, h2⟩ := h
  exact ⟨us, h1, zf7 hs hm hP hR hV cs us h2⟩
 | .mb b x, u, h => by
  simp only [fzA, Rep] at h ⊢
  exact ⟨fun hb => fzA_rep hs hm hP hR hV x u (h.1 hb), h.2⟩
 | .sat sp, u, h => by simpa only [fzA, Rep] using h
 | .mp o, u, h => by simp only [fzA, Rep] at h ⊢; exact h
 | .any, u, h => by simp only [fzA, Rep]
theorem zf7 (hs : ∀ b, S b → S' b) (hm : m f.o = some v0) (hP : ∀ cs b, f.P = some cs → blk v0 = some b → PRep S' w (.pt cs) (.pointer (some ⟨b, 0, none⟩))) (hR : ∀ x, f.R = some x → PRep S' w x v0) (hV : ∀ cs b, f.V = some cs → blk v0 = some b → PRep S' w (.pt cs) (.pointer (some ⟨b, 0, none⟩))) : ∀ (x : List AV) (u : List Value), RepL S m w x u → RepL S' m w (fzL f x) u
 | [], u, h => by simpa [fzL, RepL] using h
 | c :: cs, u, h => by
  simp only [fzL, RepL] at h ⊢
  obtain ⟨u, us, h1, h2, h3⟩ := h
  exact ⟨u, us, h1, fzA_rep hs hm hP hR hV c u h2, zf7 hs hm hP hR hV cs us h3⟩
end
end
theorem sim_fz {w0 : World} {A : Ctx} {nt : Nat} {st : St} {a : Act} {w : World} {f : Fz} {ob : AObj} (h : st.heap f.o = .live ob)
 (key : ∀ S m v, Mem w0 A.A S m st.heap w → m f.o = some v → ORep w0.heap.size S m w ob v → (∀ cs b, f.P = some cs → blk v = some b → PRep (fun x => S x ∨ blk v = some x) w (.pt cs) (.pointer (some ⟨b, 0, none⟩))) ∧ (∀ x, f.R = some x → PRep (fun x => S x ∨ blk v = some x) w x v) ∧ (∀ cs b, f.V = some cs → blk v = some b → PRep (fun x => S x ∨ blk v = some x) w (.pt cs) (.pointer (some ⟨b, 0, none⟩))))
 (hs : Sim w0 A nt st a w) : Sim w0 A nt (st.fz f) a w := by
 obtain ⟨⟨S, m, hm, hj, ht⟩, hsz, hd⟩ := hs
 obtain ⟨v, hv, hO, hnS⟩ := hm.live _ _ h
 obtain ⟨hP, hR, hV⟩ := key S m v hm hv hO
 have hss : ∀ b, S b → (fun x => S x ∨ blk v = some x) b := fun b hb => .inl hb
 have hlv : ∀ o s, (st.fz f).heap o = s → s ≠ .dead → o ≠ f.o ∧ s = fzS f (st.heap o) := fun o s ho hn => by
  have e : (bif Nat.beq o f.o then Slot.dead else fzS f (st.heap o)) = s := ho
  by_cases hoo : o = f.o
  ·subst hoo; simp only [qbv, cond_true] at e; exact absurd e.symm hn
  ·rw [nbeq hoo, cond_false] at e; exact ⟨hoo, e.symm⟩
 have hfl : ∀ s ob', fzS f s = .live ob' → ∃ ob, s = .live ob ∧ (ob' = ob ∨ (∃ ty cs, ob = .box ty cs ∧ ob' = .box ty (fzL f cs)) ∨ ∃ e size n c cs, ob = .rowA e size n c cs ∧ ob' = .rowA e size n c (fzL f cs)) := fun s ob' hq => by
  cases s with
  | un => cases hq
  | dead => cases hq
  | live ob =>
   cases ob with
   | box ty cs => simp only [fzS, Slot.live.injEq] at hq; exact ⟨_, rfl, .inr (.inl ⟨ty, cs, rfl, hq.symm⟩)⟩
   | rowA e size n c cs => simp only [fzS, Slot.live.injEq] at hq; exact ⟨_, rfl, .inr (.inr ⟨e, size, n, c, cs, rfl, hq.symm⟩)⟩
   | row e size n cs => simp only [fzS, Slot.live.injEq] at hq; exact ⟨_, rfl, .inl hq.symm⟩
   | map es => simp only [fzS, Slot.live.injEq] at hq; exact ⟨_, rfl, .inl hq.symm⟩
 have g : Grow S m w (fun x => S x ∨ blk v = some x) m w := ⟨hss, fun _ _ => rfl, fun _ _ h => h⟩
 refine ⟨⟨_, m, ⟨hm.bel, ?_, ?_, ?_, ?_, ?_, hm.gl⟩, A.up _ _ _ _ _ _ g hj, fun t => fzA_rep hss hv hP hR hV _ _ (ht t)⟩, hsz, hd⟩
 ·rintro b (hb | hb)
  ·exact hm.sA b hb
  ·exact .inr (hO.lt hb).1
 ·rintro b (hb | hb)
  ·exact hm.sW b hb
  ·exact (hO.lt hb).2
 ·intro o ho
  obtain ⟨_, h2⟩ := hlv o _ ho qz
  refine hm.un o ?_
  cases hq : st.heap o with
  | un => rfl
  | dead => rw [hq] at h2; cases h2
  | live ob => rw [hq] at h2; cases ob <;> cases h2
 ·intro o ob' ho
  obtain ⟨h1, h2⟩ := hlv o _ ho qz
  obtain ⟨ob1, h3, h4⟩ := hfl _ _ h2.symm
  obtain ⟨v1, g1, g2, g3⟩ := hm.live o ob1 h3
  refine ⟨v1, g1, ?_, ?_⟩
  ·rcases h4 with rfl | ⟨ty, cs, rfl, rfl⟩ | ⟨e, size, n, c, cs, rfl, rfl⟩
   ·exact ORep.mono g g2 fun _ _ => rfl
   rotate_left
   ·obtain ⟨us, q1, q2, q3⟩ := g2
    exact ⟨us, zf7 hss hv hP hR hV _ _ q1, q2, q3⟩
   ·obtain ⟨b, us, q1, q2, q3, q4, q5⟩ := g2
    exact ⟨b, us, q1, q2, zf7 hss hv hP hR hV _ _ q3, q4, q5⟩
  ·rintro b hb (hS | hS)
   ·exact g3 b hb hS
   ·exact h1 (hm.inj o f.o _ _ _ _ b h3 h g1 hv hb hS)
 ·intro o o' ob1 ob2 v1 v2 b ho ho' g1 g2 k1 k2
  obtain ⟨_, h2⟩ := hlv o _ ho qz
  obtain ⟨ob3, h3, _⟩ := hfl _ _ h2.symm
  obtain ⟨_, h5⟩ := hlv o' _ ho' qz
  obtain ⟨ob4, h6, _⟩ := hfl _ _ h5.symm
  exact hm.inj o o' _ _ _ _ b h3 h6 g1 g2 k1 k2
theorem zeg {st : St} (o : Nat) {ty : TypeId} {xs : List AV} {cs : List PV} (h : st.heap o = .live (.box ty xs)) (ha : allP xs = some cs) : ReO st (st.fz ⟨o, some cs, none, none⟩) := by
 intro w0 A nt a w hs
 refine sim_fz h (fun S m v hm hv hO => ⟨fun cs' b e hb => ?_, fun x e => (by cases e), fun cs' b e hb => (by cases e)⟩) hs
 exact jbp
theorem reo_fzV {st : St} (o : Nat) {ty : TypeId} {xs : List AV} {cs : List PV} (h : st.heap o = .live (.box ty xs)) (ha : allP xs = some cs) : ReO st (st.fz ⟨o, none, none, some cs⟩) := by
 intro w0 A nt a w hs
 refine sim_fz h (fun S m v hm hv hO => ⟨fun cs' b e hb => (by cases e), fun x e => (by cases e), fun cs' b e hb => ?_⟩) hs
 exact jbp
theorem zdO {st : St} (o : Nat) {e size n : Nat} {cs : List PV} (h : st.heap o = .live (.row e size n cs)) : ReO st (st.fz ⟨o, none, some (.sl n size cs), none⟩) := by
 intro w0 A nt a w hs
 refine sim_fz h (fun S m v hm hv hO => ⟨fun cs' b e hb => (by cases e), fun x e => ?_, fun cs' b e hb => (by cases e)⟩) hs
 simp only [Option.some.injEq] at e
 subst e
 obtain ⟨us, h1, h2⟩ := hO
 have hl := h1.length
 have hr2 := fun b hb => zbG h2 (b := b) hb
 simp only [PRep]
 rcases h2.2 with ⟨rfl, rfl⟩ | ⟨g, cap, cur, fz, rfl, _, hh, _, h8, h9, _, h10⟩
 ·exact ⟨none, 0, us, rfl, Nat.le_refl _, by rw [← hl, h2.1], PRepL.mono (fun _ h => .inl h) (fun _ _ => rfl) _ _ h1, .inl rfl⟩
 ·exact ⟨some ⟨g, 0, none⟩, cap, us, rfl, h8, by rw [← hl, h2.1], PRepL.mono (fun _ h => .inl h) (fun _ _ => rfl) _ _ h1, .inr ⟨g, 0, rfl, .inr rfl, hr2 g rfl⟩⟩
theorem zeu {P : Program} {w0 : World} {A : Ctx1} {nt : Nat} {id : Nat} {c d : Code} {Q : Exit → St → Prop} {st : St} (st1 : St) (h : awp ⟨P, w0, ctx0 A, nt⟩ c (InB id (Thn (fun st' => Re st' st1) Q)) st) (k : awp ⟨P, w0, ctx0 A, nt⟩ d Q st1) : awp ⟨P, w0, ctx0 A, nt⟩ c (InB id (Thn (awp ⟨P, w0, ctx0 A, nt⟩ d Q) Q)) st :=
 ziG h fun e st' he => by
  cases e with
  | normal => exact zaH he k
  | exit j =>
   simp only [InB] at he ⊢
   split at he
   ·rename_i hj; rw [if_pos hj]; exact zaH he k
   ·rename_i hj; rw [if_neg hj]; exact he
  | _ => exact he
theorem zbd {G : Env} {c : Code} {Q : Exit → St → Prop} {st st' : St} (r : ReO st st') (h : awp G c Q st') : Thn (awp G c Q) Q .normal st := zaZ r h
end Go.Proofs.YtlfjpippeeikdaaGreatDoor
