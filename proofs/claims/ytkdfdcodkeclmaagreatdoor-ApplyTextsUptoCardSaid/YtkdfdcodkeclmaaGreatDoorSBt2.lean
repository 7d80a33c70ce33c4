/- the reference's SettingFault, kind by kind, over data. (Printed by wip/mkbt.py.) -/
import Derived.Test.YtkdfdcodkeclmaaGreatDoorSBt1
namespace Go.Proofs.YtkdfdcodkeclmaaGreatDoor
open Tryz
open Go.RowKit Go.Sort
set_option linter.unusedVariables false
set_option linter.unusedSimpArgs false
set_option maxRecDepth 100000
set_option maxHeartbeats 2000000 in
theorem refCheck1_s (t : ByteArray) (n a b : Int) (ok : SE.OK ⟨1, t, n, a, b⟩) : Fn prog 25 [.agg (SE.cells ⟨1, t, n, a, b⟩)] (.p (.v (.int .i64 (seE ⟨1, t, n, a, b⟩)))) [] := by
 obtain ⟨hz, hn0, hn1, ha0, ha1⟩ := ok
 dsimp only at hz hn0 hn1 ha0 ha1
 obtain ⟨E, hE⟩ : ∃ E, seE ⟨1, t, n, a, b⟩ = E := ⟨_, rfl⟩
 rw [hE]
 unfold seE at hE
 rw [if_neg (by dsimp only; decide)] at hE
 show Fn prog _ [.agg [.p (.v (.int .i64 1)), .p (.v (.string t)), .p (.v (.int .i64 n)), .p (.v (.int .u32 a)), .p (.v (.int .i64 b))]] _ _
 have hH := zck t
 refine fnI fun w0 A => ?_
 refine G [21] ?_
 refine zac (xs := [.p (.v (.string ⟨#[]⟩)), .p (.v (.string ⟨#[116]⟩)), .p (.v (.string ⟨#[110]⟩)), .p (.v (.string ⟨#[]⟩)), .p (.v (.string ⟨#[116]⟩)), .p (.v (.string ⟨#[]⟩)), .p (.v (.string ⟨#[116]⟩)), .p (.v (.string ⟨#[116]⟩)), .p (.v (.string ⟨#[110]⟩)), .p (.v (.string ⟨#[]⟩)), .p (.v (.string ⟨#[99]⟩))]) (zan (es := [.p (.v (.string ⟨#[]⟩)), .p (.v (.string ⟨#[116]⟩)), .p (.v (.string ⟨#[110]⟩)), .p (.v (.string ⟨#[]⟩)), .p (.v (.string ⟨#[116]⟩)), .p (.v (.string ⟨#[]⟩)), .p (.v (.string ⟨#[116]⟩)), .p (.v (.string ⟨#[116]⟩)), .p (.v (.string ⟨#[110]⟩)), .p (.v (.string ⟨#[]⟩)), .p (.v (.string ⟨#[99]⟩))]) (cs := [.v (.string ⟨#[]⟩), .v (.string ⟨#[116]⟩), .v (.string ⟨#[110]⟩), .v (.string ⟨#[]⟩), .v (.string ⟨#[116]⟩), .v (.string ⟨#[]⟩), .v (.string ⟨#[116]⟩), .v (.string ⟨#[116]⟩), .v (.string ⟨#[110]⟩), .v (.string ⟨#[]⟩), .v (.string ⟨#[99]⟩)]) 15 U89 sz9 zc9 (Nat.le_of_ble_eq_true rfl) (Nat.le_of_ble_eq_true rfl) rfl (by kernel_rfl) (by kernel_rfl) (by kernel_rfl) (Nat.le_of_ble_eq_true rfl)) (by first | rfl | kernel_rfl) rfl ⟨rfl, trivial⟩ ?_
 refine G [2] ?_
 refine zac (zai U89 sz9 (by omega) (by omega) (show _ = 1 from rfl)) rfl rfl ⟨rfl, trivial⟩ ?_
 refine zac (zaT U9 rfl rfl) rfl rfl ⟨rfl, trivial⟩ ?_
 refine G [2] ?_
 by_cases ht : t ≠ ⟨#[]⟩
 ·by_cases hn : n ≠ 0
  ·rw [if_pos (show seF ⟨1, t, n, a, b⟩ by simp [seF, isT, isN, isC, *])] at hE
   subst hE
   refine G [5] ?_
   refine zaa (zae (c := true) (by simp [ht])) rfl rfl ?_
   refine G [2] ?_
   refine zaa (zae (s := ⟨#[116]⟩) (c := false) (by decide)) rfl rfl ?_
   refine G [4] ?_
   refine zaa (zao (c := true) (by simpa using hn)) rfl rfl ?_
   refine G [2] ?_
   refine zaa (zae (s := ⟨#[116]⟩) (c := true) (by decide)) rfl rfl ?_
   refine G [19, 9, 0] ?_
   exact yE
  replace hn : n = 0 := Decidable.not_not.1 hn
  by_cases hq : a = 0 ∧ b = 0
  ·refine G [5] ?_
   refine zaa (zae (c := true) (by simp [ht])) rfl rfl ?_
   refine G [2] ?_
   refine zaa (zae (s := ⟨#[116]⟩) (c := false) (by decide)) rfl rfl ?_
   refine G [4] ?_
   refine zaa (zao (c := false) (by simp [hn])) rfl rfl ?_
   refine G [9] ?_
   refine zaa (zam U27 rfl rfl (by kernel_rfl) (by kernel_rfl) (by kernel_rfl) (c := false) (by rw [za6]; simp [hq])) rfl rfl ?_
   refine G [7] ?_
   rw [if_neg (show ¬ seF ⟨1, t, n, a, b⟩ by simp [seF, isT, isN, isC, *])] at hE
   rw [seV_1] at hE
   refine G [6] ?_
   refine zaa (zah (s := ⟨#[116]⟩) (c := false) (by decide)) rfl rfl ?_
   refine G [16] ?_
   refine zaa (zah (s := ⟨#[116]⟩) (c := false) (by decide)) rfl rfl ?_
   refine G [38] ?_
   subst hE
   refine G [3] ?_
   refine zaa (zah (s := ⟨#[116]⟩) (c := true) (by decide)) rfl rfl ?_
   refine G [7] ?_
   refine cV hH ?_
   refine G [3, 9, 0] ?_
   exact yE
  ·rw [if_pos (show seF ⟨1, t, n, a, b⟩ by simp [seF, isT, isN, isC]; omega)] at hE
   subst hE
   refine G [5] ?_
   refine zaa (zae (c := true) (by simp [ht])) rfl rfl ?_
   refine G [2] ?_
   refine zaa (zae (s := ⟨#[116]⟩) (c := false) (by decide)) rfl rfl ?_
   refine G [4] ?_
   refine zaa (zao (c := false) (by simp [hn])) rfl rfl ?_
   refine G [9] ?_
   refine zaa (zam U27 rfl rfl (by kernel_rfl) (by kernel_rfl) (by kernel_rfl) (c := true) (by rw [za6]; simp; omega)) rfl rfl ?_
   refine G [2] ?_
   refine zaa (zae (s := ⟨#[116]⟩) (c := true) (by decide)) rfl rfl ?_
   refine G [9, 9, 0] ?_
   exact yE
 replace ht : t = ⟨#[]⟩ := Decidable.not_not.1 ht
 by_cases hn : n ≠ 0
 ·rw [if_pos (show seF ⟨1, t, n, a, b⟩ by simp [seF, isT, isN, isC, *])] at hE
  subst hE
  refine G [5] ?_
  refine zaa (zae (c := false) (by simp [ht])) rfl rfl ?_
  refine G [7] ?_
  refine zaa (zao (c := true) (by simpa using hn)) rfl rfl ?_
  refine G [2] ?_
  refine zaa (zae (s := ⟨#[116]⟩) (c := true) (by decide)) rfl rfl ?_
  refine G [19, 9, 0] ?_
  exact yE
 replace hn : n = 0 := Decidable.not_not.1 hn
 by_cases hq : a = 0 ∧ b = 0
 ·refine G [5] ?_
  refine zaa (zae (c := false) (by simp [ht])) rfl rfl ?_
  refine G [7] ?_
  refine zaa (zao (c := false) (by simp [hn])) rfl rfl ?_
  refine G [9] ?_
  refine zaa (zam U27 rfl rfl (by kernel_rfl) (by kernel_rfl) (by kernel_rfl) (c := false) (by rw [za6]; simp [hq])) rfl rfl ?_
  refine G [7] ?_
  rw [if_neg (show ¬ seF ⟨1, t, n, a, b⟩ by simp [seF, isT, isN, isC, *])] at hE
  rw [seV_1] at hE
  refine G [6] ?_
  refine zaa (zah (s := ⟨#[116]⟩) (c := false) (by decide)) rfl rfl ?_
  refine G [16] ?_
  refine zaa (zah (s := ⟨#[116]⟩) (c := false) (by decide)) rfl rfl ?_
  refine G [38] ?_
  subst hE
  refine G [3] ?_
  refine zaa (zah (s := ⟨#[116]⟩) (c := true) (by decide)) rfl rfl ?_
  refine G [7] ?_
  refine cV hH ?_
  refine G [3, 9, 0] ?_
  exact yE
 ·rw [if_pos (show seF ⟨1, t, n, a, b⟩ by simp [seF, isT, isN, isC]; omega)] at hE
  subst hE
  refine G [5] ?_
  refine zaa (zae (c := false) (by simp [ht])) rfl rfl ?_
  refine G [7] ?_
  refine zaa (zao (c := false) (by simp [hn])) rfl rfl ?_
  refine G [9] ?_
  refine zaa (zam U27 rfl rfl (by kernel_rfl) (by kernel_rfl) (by kernel_rfl) (c := true) (by rw [za6]; simp; omega)) rfl rfl ?_
  refine G [2] ?_
  refine zaa (zae (s := ⟨#[116]⟩) (c := true) (by decide)) rfl rfl ?_
  refine G [9, 9, 0] ?_
  exact yE
set_option maxHeartbeats 2000000 in
theorem refCheck2_s (t : ByteArray) (n a b : Int) (ok : SE.OK ⟨2, t, n, a, b⟩) : Fn prog 25 [.agg (SE.cells ⟨2, t, n, a, b⟩)] (.p (.v (.int .i64 (seE ⟨2, t, n, a, b⟩)))) [] := by
 obtain ⟨hz, hn0, hn1, ha0, ha1⟩ := ok
 dsimp only at hz hn0 hn1 ha0 ha1
 obtain ⟨E, hE⟩ : ∃ E, seE ⟨2, t, n, a, b⟩ = E := ⟨_, rfl⟩
 rw [hE]
 unfold seE at hE
 rw [if_neg (by dsimp only; decide)] at hE
 show Fn prog _ [.agg [.p (.v (.int .i64 2)), .p (.v (.string t)), .p (.v (.int .i64 n)), .p (.v (.int .u32 a)), .p (.v (.int .i64 b))]] _ _
 refine fnI fun w0 A => ?_
 refine G [21] ?_
 refine zac (xs := [.p (.v (.string ⟨#[]⟩)), .p (.v (.string ⟨#[116]⟩)), .p (.v (.string ⟨#[110]⟩)), .p (.v (.string ⟨#[]⟩)), .p (.v (.string ⟨#[116]⟩)), .p (.v (.string ⟨#[]⟩)), .p (.v (.string ⟨#[116]⟩)), .p (.v (.string ⟨#[116]⟩)), .p (.v (.string ⟨#[110]⟩)), .p (.v (.string ⟨#[]⟩)), .p (.v (.string ⟨#[99]⟩))]) (zan (es := [.p (.v (.string ⟨#[]⟩)), .p (.v (.string ⟨#[116]⟩)), .p (.v (.string ⟨#[110]⟩)), .p (.v (.string ⟨#[]⟩)), .p (.v (.string ⟨#[116]⟩)), .p (.v (.string ⟨#[]⟩)), .p (.v (.string ⟨#[116]⟩)), .p (.v (.string ⟨#[116]⟩)), .p (.v (.string ⟨#[110]⟩)), .p (.v (.string ⟨#[]⟩)), .p (.v (.string ⟨#[99]⟩))]) (cs := [.v (.string ⟨#[]⟩), .v (.string ⟨#[116]⟩), .v (.string ⟨#[110]⟩), .v (.string ⟨#[]⟩), .v (.string ⟨#[116]⟩), .v (.string ⟨#[]⟩), .v (.string ⟨#[116]⟩), .v (.string ⟨#[116]⟩), .v (.string ⟨#[110]⟩), .v (.string ⟨#[]⟩), .v (.string ⟨#[99]⟩)]) 15 U89 sz9 zc9 (Nat.le_of_ble_eq_true rfl) (Nat.le_of_ble_eq_true rfl) rfl (by kernel_rfl) (by kernel_rfl) (by kernel_rfl) (Nat.le_of_ble_eq_true rfl)) (by first | rfl | kernel_rfl) rfl ⟨rfl, trivial⟩ ?_
 refine G [2] ?_
 refine zac (zai U89 sz9 (by omega) (by omega) (show _ = 2 from rfl)) rfl rfl ⟨rfl, trivial⟩ ?_
 refine zac (zaT U9 rfl rfl) rfl rfl ⟨rfl, trivial⟩ ?_
 refine G [2] ?_
 by_cases ht : t ≠ ⟨#[]⟩
 ·rw [if_pos (show seF ⟨2, t, n, a, b⟩ by simp [seF, isT, isN, isC, *])] at hE
  subst hE
  refine G [5] ?_
  refine zaa (zae (c := true) (by simp [ht])) rfl rfl ?_
  refine G [2] ?_
  refine zaa (zae (s := ⟨#[110]⟩) (c := true) (by decide)) rfl rfl ?_
  refine G [27, 9, 0] ?_
  exact yE
 replace ht : t = ⟨#[]⟩ := Decidable.not_not.1 ht
 by_cases hn : n ≠ 0
 ·by_cases hq : a = 0 ∧ b = 0
  ·refine G [5] ?_
   refine zaa (zae (c := false) (by simp [ht])) rfl rfl ?_
   refine G [7] ?_
   refine zaa (zao (c := true) (by simpa using hn)) rfl rfl ?_
   refine G [2] ?_
   refine zaa (zae (s := ⟨#[110]⟩) (c := false) (by decide)) rfl rfl ?_
   refine G [6] ?_
   refine zaa (zam U27 rfl rfl (by kernel_rfl) (by kernel_rfl) (by kernel_rfl) (c := false) (by rw [za6]; simp [hq])) rfl rfl ?_
   refine G [7] ?_
   rw [if_neg (show ¬ seF ⟨2, t, n, a, b⟩ by simp [seF, isT, isN, isC, *])] at hE
   rw [seV_2] at hE
   by_cases hl : n < 0
   ·rw [if_pos (.inl hl)] at hE
    subst hE
    refine G [6] ?_
    refine zaa (zah (s := ⟨#[110]⟩) (c := true) (by decide)) rfl rfl ?_
    refine G [3] ?_
    refine zaa (zaN (c := true) (by simpa using hl)) rfl rfl ?_
    refine G [14, 9, 0] ?_
    exact yE
   refine G [6] ?_
   refine zaa (zah (s := ⟨#[110]⟩) (c := true) (by decide)) rfl rfl ?_
   refine G [3] ?_
   refine zaa (zaN (c := false) (by simp; omega)) rfl rfl ?_
   refine G [8, 9, 0] ?_
   refine zab _ rfl (fun h => ?_) (fun h => ?_)
   ·have h1 : 65535 < n := by simpa using h
    rw [if_pos (.inr h1)] at hE
    subst hE
    refine G [5, 9, 0] ?_
    exact yE
   have h1 : ¬ 65535 < n := by simpa using h
   clear h
   rw [if_neg (by omega)] at hE
   subst hE
   refine G [3] ?_
   refine zaa (zah (s := ⟨#[110]⟩) (c := false) (by decide)) rfl rfl ?_
   refine G [41] ?_
   refine zaa (zah (s := ⟨#[110]⟩) (c := false) (by decide)) rfl rfl ?_
   refine G [9, 9, 0] ?_
   exact yE
  ·rw [if_pos (show seF ⟨2, t, n, a, b⟩ by simp [seF, isT, isN, isC]; omega)] at hE
   subst hE
   refine G [5] ?_
   refine zaa (zae (c := false) (by simp [ht])) rfl rfl ?_
   refine G [7] ?_
   refine zaa (zao (c := true) (by simpa using hn)) rfl rfl ?_
   refine G [2] ?_
   refine zaa (zae (s := ⟨#[110]⟩) (c := false) (by decide)) rfl rfl ?_
   refine G [6] ?_
   refine zaa (zam U27 rfl rfl (by kernel_rfl) (by kernel_rfl) (by kernel_rfl) (c := true) (by rw [za6]; simp; omega)) rfl rfl ?_
   refine G [2] ?_
   refine zaa (zae (s := ⟨#[110]⟩) (c := true) (by decide)) rfl rfl ?_
   refine G [9, 9, 0] ?_
   exact yE
 replace hn : n = 0 := Decidable.not_not.1 hn
 by_cases hq : a = 0 ∧ b = 0
 ·refine G [5] ?_
  refine zaa (zae (c := false) (by simp [ht])) rfl rfl ?_
  refine G [7] ?_
  refine zaa (zao (c := false) (by simp [hn])) rfl rfl ?_
  refine G [9] ?_
  refine zaa (zam U27 rfl rfl (by kernel_rfl) (by kernel_rfl) (by kernel_rfl) (c := false) (by rw [za6]; simp [hq])) rfl rfl ?_
  refine G [7] ?_
  rw [if_neg (show ¬ seF ⟨2, t, n, a, b⟩ by simp [seF, isT, isN, isC, *])] at hE
  rw [seV_2] at hE
  by_cases hl : n < 0
  ·rw [if_pos (.inl hl)] at hE
   subst hE
   refine G [6] ?_
   refine zaa (zah (s := ⟨#[110]⟩) (c := true) (by decide)) rfl rfl ?_
   refine G [3] ?_
   refine zaa (zaN (c := true) (by simpa using hl)) rfl rfl ?_
   refine G [14, 9, 0] ?_
   exact yE
  refine G [6] ?_
  refine zaa (zah (s := ⟨#[110]⟩) (c := true) (by decide)) rfl rfl ?_
  refine G [3] ?_
  refine zaa (zaN (c := false) (by simp; omega)) rfl rfl ?_
  refine G [8, 9, 0] ?_
  refine zab _ rfl (fun h => ?_) (fun h => ?_)
  ·have h1 : 65535 < n := by simpa using h
   rw [if_pos (.inr h1)] at hE
   subst hE
   refine G [5, 9, 0] ?_
   exact yE
  have h1 : ¬ 65535 < n := by simpa using h
  clear h
  rw [if_neg (by omega)] at hE
  subst hE
  refine G [3] ?_
  refine zaa (zah (s := ⟨#[110]⟩) (c := false) (by decide)) rfl rfl ?_
  refine G [41] ?_
  refine zaa (zah (s := ⟨#[110]⟩) (c := false) (by decide)) rfl rfl ?_
  refine G [9, 9, 0] ?_
  exact yE
 ·rw [if_pos (show seF ⟨2, t, n, a, b⟩ by simp [seF, isT, isN, isC]; omega)] at hE
  subst hE
  refine G [5] ?_
  refine zaa (zae (c := false) (by simp [ht])) rfl rfl ?_
  refine G [7] ?_
  refine zaa (zao (c := false) (by simp [hn])) rfl rfl ?_
  refine G [9] ?_
  refine zaa (zam U27 rfl rfl (by kernel_rfl) (by kernel_rfl) (by kernel_rfl) (c := true) (by rw [za6]; simp; omega)) rfl rfl ?_
  refine G [2] ?_
  refine zaa (zae (s := ⟨#[110]⟩) (c := true) (by decide)) rfl rfl ?_
  refine G [9, 9, 0] ?_
  exact yE
set_option maxHeartbeats 2000000 in
theorem refCheck3_s (t : ByteArray) (n a b : Int) (ok : SE.OK ⟨3, t, n, a, b⟩) : Fn prog 25 [.agg (SE.cells ⟨3, t, n, a, b⟩)] (.p (.v (.int .i64 (seE ⟨3, t, n, a, b⟩)))) [] := by
 obtain ⟨hz, hn0, hn1, ha0, ha1⟩ := ok
 dsimp only at hz hn0 hn1 ha0 ha1
 obtain ⟨E, hE⟩ : ∃ E, seE ⟨3, t, n, a, b⟩ = E := ⟨_, rfl⟩
 rw [hE]
 unfold seE at hE
 rw [if_neg (by dsimp only; decide)] at hE
 show Fn prog _ [.agg [.p (.v (.int .i64 3)), .p (.v (.string t)), .p (.v (.int .i64 n)), .p (.v (.int .u32 a)), .p (.v (.int .i64 b))]] _ _
 refine fnI fun w0 A => ?_
 refine G [21] ?_
 refine zac (xs := [.p (.v (.string ⟨#[]⟩)), .p (.v (.string ⟨#[116]⟩)), .p (.v (.string ⟨#[110]⟩)), .p (.v (.string ⟨#[]⟩)), .p (.v (.string ⟨#[116]⟩)), .p (.v (.string ⟨#[]⟩)), .p (.v (.string ⟨#[116]⟩)), .p (.v (.string ⟨#[116]⟩)), .p (.v (.string ⟨#[110]⟩)), .p (.v (.string ⟨#[]⟩)), .p (.v (.string ⟨#[99]⟩))]) (zan (es := [.p (.v (.string ⟨#[]⟩)), .p (.v (.string ⟨#[116]⟩)), .p (.v (.string ⟨#[110]⟩)), .p (.v (.string ⟨#[]⟩)), .p (.v (.string ⟨#[116]⟩)), .p (.v (.string ⟨#[]⟩)), .p (.v (.string ⟨#[116]⟩)), .p (.v (.string ⟨#[116]⟩)), .p (.v (.string ⟨#[110]⟩)), .p (.v (.string ⟨#[]⟩)), .p (.v (.string ⟨#[99]⟩))]) (cs := [.v (.string ⟨#[]⟩), .v (.string ⟨#[116]⟩), .v (.string ⟨#[110]⟩), .v (.string ⟨#[]⟩), .v (.string ⟨#[116]⟩), .v (.string ⟨#[]⟩), .v (.string ⟨#[116]⟩), .v (.string ⟨#[116]⟩), .v (.string ⟨#[110]⟩), .v (.string ⟨#[]⟩), .v (.string ⟨#[99]⟩)]) 15 U89 sz9 zc9 (Nat.le_of_ble_eq_true rfl) (Nat.le_of_ble_eq_true rfl) rfl (by kernel_rfl) (by kernel_rfl) (by kernel_rfl) (Nat.le_of_ble_eq_true rfl)) (by first | rfl | kernel_rfl) rfl ⟨rfl, trivial⟩ ?_
 refine G [2] ?_
 refine zac (zai U89 sz9 (by omega) (by omega) (show _ = 3 from rfl)) rfl rfl ⟨rfl, trivial⟩ ?_
 refine zac (zaT U9 rfl rfl) rfl rfl ⟨rfl, trivial⟩ ?_
 refine G [2] ?_
 by_cases ht : t ≠ ⟨#[]⟩
 ·rw [if_pos (show seF ⟨3, t, n, a, b⟩ by simp [seF, isT, isN, isC, *])] at hE
  subst hE
  refine G [5] ?_
  refine zaa (zae (c := true) (by simp [ht])) rfl rfl ?_
  refine G [2] ?_
  refine zaa (zae (s := ⟨#[]⟩) (c := true) (by decide)) rfl rfl ?_
  refine G [27, 9, 0] ?_
  exact yE
 replace ht : t = ⟨#[]⟩ := Decidable.not_not.1 ht
 by_cases hn : n ≠ 0
 ·rw [if_pos (show seF ⟨3, t, n, a, b⟩ by simp [seF, isT, isN, isC, *])] at hE
  subst hE
  refine G [5] ?_
  refine zaa (zae (c := false) (by simp [ht])) rfl rfl ?_
  refine G [7] ?_
  refine zaa (zao (c := true) (by simpa using hn)) rfl rfl ?_
  refine G [2] ?_
  refine zaa (zae (s := ⟨#[]⟩) (c := true) (by decide)) rfl rfl ?_
  refine G [19, 9, 0] ?_
  exact yE
 replace hn : n = 0 := Decidable.not_not.1 hn
 by_cases hq : a = 0 ∧ b = 0
 ·refine G [5] ?_
  refine zaa (zae (c := false) (by simp [ht])) rfl rfl ?_
  refine G [7] ?_
  refine zaa (zao (c := false) (by simp [hn])) rfl rfl ?_
  refine G [9] ?_
  refine zaa (zam U27 rfl rfl (by kernel_rfl) (by kernel_rfl) (by kernel_rfl) (c := false) (by rw [za6]; simp [hq])) rfl rfl ?_
  refine G [7] ?_
  rw [if_neg (show ¬ seF ⟨3, t, n, a, b⟩ by simp [seF, isT, isN, isC, *])] at hE
  rw [seV_3] at hE
  refine G [6] ?_
  refine zaa (zah (s := ⟨#[]⟩) (c := false) (by decide)) rfl rfl ?_
  refine G [16] ?_
  refine zaa (zah (s := ⟨#[]⟩) (c := false) (by decide)) rfl rfl ?_
  refine G [38] ?_
  subst hE
  refine G [3] ?_
  refine zaa (zah (s := ⟨#[]⟩) (c := false) (by decide)) rfl rfl ?_
  refine G [9, 9, 0] ?_
  exact yE
 ·rw [if_pos (show seF ⟨3, t, n, a, b⟩ by simp [seF, isT, isN, isC]; omega)] at hE
  subst hE
  refine G [5] ?_
  refine zaa (zae (c := false) (by simp [ht])) rfl rfl ?_
  refine G [7] ?_
  refine zaa (zao (c := false) (by simp [hn])) rfl rfl ?_
  refine G [9] ?_
  refine zaa (zam U27 rfl rfl (by kernel_rfl) (by kernel_rfl) (by kernel_rfl) (c := true) (by rw [za6]; simp; omega)) rfl rfl ?_
  refine G [2] ?_
  refine zaa (zae (s := ⟨#[]⟩) (c := true) (by decide)) rfl rfl ?_
  refine G [9, 9, 0] ?_
  exact yE
set_option maxHeartbeats 2000000 in
theorem refCheck4_s (t : ByteArray) (n a b : Int) (ok : SE.OK ⟨4, t, n, a, b⟩) : Fn prog 25 [.agg (SE.cells ⟨4, t, n, a, b⟩)] (.p (.v (.int .i64 (seE ⟨4, t, n, a, b⟩)))) [] := by
 obtain ⟨hz, hn0, hn1, ha0, ha1⟩ := ok
 dsimp only at hz hn0 hn1 ha0 ha1
 obtain ⟨E, hE⟩ : ∃ E, seE ⟨4, t, n, a, b⟩ = E := ⟨_, rfl⟩
 rw [hE]
 unfold seE at hE
 rw [if_neg (by dsimp only; decide)] at hE
 show Fn prog _ [.agg [.p (.v (.int .i64 4)), .p (.v (.string t)), .p (.v (.int .i64 n)), .p (.v (.int .u32 a)), .p (.v (.int .i64 b))]] _ _
 have hH := zck t
 refine fnI fun w0 A => ?_
 refine G [21] ?_
 refine zac (xs := [.p (.v (.string ⟨#[]⟩)), .p (.v (.string ⟨#[116]⟩)), .p (.v (.string ⟨#[110]⟩)), .p (.v (.string ⟨#[]⟩)), .p (.v (.string ⟨#[116]⟩)), .p (.v (.string ⟨#[]⟩)), .p (.v (.string ⟨#[116]⟩)), .p (.v (.string ⟨#[116]⟩)), .p (.v (.string ⟨#[110]⟩)), .p (.v (.string ⟨#[]⟩)), .p (.v (.string ⟨#[99]⟩))]) (zan (es := [.p (.v (.string ⟨#[]⟩)), .p (.v (.string ⟨#[116]⟩)), .p (.v (.string ⟨#[110]⟩)), .p (.v (.string ⟨#[]⟩)), .p (.v (.string ⟨#[116]⟩)), .p (.v (.string ⟨#[]⟩)), .p (.v (.string ⟨#[116]⟩)), .p (.v (.string ⟨#[116]⟩)), .p (.v (.string ⟨#[110]⟩)), .p (.v (.string ⟨#[]⟩)), .p (.v (.string ⟨#[99]⟩))]) (cs := [.v (.string ⟨#[]⟩), .v (.string ⟨#[116]⟩), .v (.string ⟨#[110]⟩), .v (.string ⟨#[]⟩), .v (.string ⟨#[116]⟩), .v (.string ⟨#[]⟩), .v (.string ⟨#[116]⟩), .v (.string ⟨#[116]⟩), .v (.string ⟨#[110]⟩), .v (.string ⟨#[]⟩), .v (.string ⟨#[99]⟩)]) 15 U89 sz9 zc9 (Nat.le_of_ble_eq_true rfl) (Nat.le_of_ble_eq_true rfl) rfl (by kernel_rfl) (by kernel_rfl) (by kernel_rfl) (Nat.le_of_ble_eq_true rfl)) (by first | rfl | kernel_rfl) rfl ⟨rfl, trivial⟩ ?_
 refine G [2] ?_
 refine zac (zai U89 sz9 (by omega) (by omega) (show _ = 4 from rfl)) rfl rfl ⟨rfl, trivial⟩ ?_
 refine zac (zaT U9 rfl rfl) rfl rfl ⟨rfl, trivial⟩ ?_
 refine G [2] ?_
 by_cases ht : t ≠ ⟨#[]⟩
 ·by_cases hn : n ≠ 0
  ·rw [if_pos (show seF ⟨4, t, n, a, b⟩ by simp [seF, isT, isN, isC, *])] at hE
   subst hE
   refine G [5] ?_
   refine zaa (zae (c := true) (by simp [ht])) rfl rfl ?_
   refine G [2] ?_
   refine zaa (zae (s := ⟨#[116]⟩) (c := false) (by decide)) rfl rfl ?_
   refine G [4] ?_
   refine zaa (zao (c := true) (by simpa using hn)) rfl rfl ?_
   refine G [2] ?_
   refine zaa (zae (s := ⟨#[116]⟩) (c := true) (by decide)) rfl rfl ?_
   refine G [19, 9, 0] ?_
   exact yE
  replace hn : n = 0 := Decidable.not_not.1 hn
  by_cases hq : a = 0 ∧ b = 0
  ·refine G [5] ?_
   refine zaa (zae (c := true) (by simp [ht])) rfl rfl ?_
   refine G [2] ?_
   refine zaa (zae (s := ⟨#[116]⟩) (c := false) (by decide)) rfl rfl ?_
   refine G [4] ?_
   refine zaa (zao (c := false) (by simp [hn])) rfl rfl ?_
   refine G [9] ?_
   refine zaa (zam U27 rfl rfl (by kernel_rfl) (by kernel_rfl) (by kernel_rfl) (c := false) (by rw [za6]; simp [hq])) rfl rfl ?_
   refine G [7] ?_
   rw [if_neg (show ¬ seF ⟨4, t, n, a, b⟩ by simp [seF, isT, isN, isC, *])] at hE
   rw [seV_4] at hE
   refine G [6] ?_
   refine zaa (zah (s := ⟨#[116]⟩) (c := false) (by decide)) rfl rfl ?_
   refine G [16] ?_
   refine zaa (zah (s := ⟨#[116]⟩) (c := false) (by decide)) rfl rfl ?_
   refine G [38] ?_
   subst hE
   refine G [3] ?_
   refine zaa (zah (s := ⟨#[116]⟩) (c := true) (by decide)) rfl rfl ?_
   refine G [7] ?_
   refine cV hH ?_
   refine G [3, 9, 0] ?_
   exact yE
  ·rw [if_pos (show seF ⟨4, t, n, a, b⟩ by simp [seF, isT, isN, isC]; omega)] at hE
   subst hE
   refine G [5] ?_
   refine zaa (zae (c := true) (by simp [ht])) rfl rfl ?_
   refine G [2] ?_
   refine zaa (zae (s := ⟨#[116]⟩) (c := false) (by decide)) rfl rfl ?_
   refine G [4] ?_
   refine zaa (zao (c := false) (by simp [hn])) rfl rfl ?_
   refine G [9] ?_
   refine zaa (zam U27 rfl rfl (by kernel_rfl) (by kernel_rfl) (by kernel_rfl) (c := true) (by rw [za6]; simp; omega)) rfl rfl ?_
   refine G [2] ?_
   refine zaa (zae (s := ⟨#[116]⟩) (c := true) (by decide)) rfl rfl ?_
   refine G [9, 9, 0] ?_
   exact yE
 replace ht : t = ⟨#[]⟩ := Decidable.not_not.1 ht
 by_cases hn : n ≠ 0
 ·rw [if_pos (show seF ⟨4, t, n, a, b⟩ by simp [seF, isT, isN, isC, *])] at hE
  subst hE
  refine G [5] ?_
  refine zaa (zae (c := false) (by simp [ht])) rfl rfl ?_
  refine G [7] ?_
  refine zaa (zao (c := true) (by simpa using hn)) rfl rfl ?_
  refine G [2] ?_
  refine zaa (zae (s := ⟨#[116]⟩) (c := true) (by decide)) rfl rfl ?_
  refine G [19, 9, 0] ?_
  exact yE
 replace hn : n = 0 := Decidable.not_not.1 hn
 by_cases hq : a = 0 ∧ b = 0
 ·refine G [5] ?_
  refine zaa (zae (c := false) (by simp [ht])) rfl rfl ?_
  refine G [7] ?_
  refine zaa (zao (c := false) (by simp [hn])) rfl rfl ?_
  refine G [9] ?_
  refine zaa (zam U27 rfl rfl (by kernel_rfl) (by kernel_rfl) (by kernel_rfl) (c := false) (by rw [za6]; simp [hq])) rfl rfl ?_
  refine G [7] ?_
  rw [if_neg (show ¬ seF ⟨4, t, n, a, b⟩ by simp [seF, isT, isN, isC, *])] at hE
  rw [seV_4] at hE
  refine G [6] ?_
  refine zaa (zah (s := ⟨#[116]⟩) (c := false) (by decide)) rfl rfl ?_
  refine G [16] ?_
  refine zaa (zah (s := ⟨#[116]⟩) (c := false) (by decide)) rfl rfl ?_
  refine G [38] ?_
  subst hE
  refine G [3] ?_
  refine zaa (zah (s := ⟨#[116]⟩) (c := true) (by decide)) rfl rfl ?_
  refine G [7] ?_
  refine cV hH ?_
  refine G [3, 9, 0] ?_
  exact yE
 ·rw [if_pos (show seF ⟨4, t, n, a, b⟩ by simp [seF, isT, isN, isC]; omega)] at hE
  subst hE
  refine G [5] ?_
  refine zaa (zae (c := false) (by simp [ht])) rfl rfl ?_
  refine G [7] ?_
  refine zaa (zao (c := false) (by simp [hn])) rfl rfl ?_
  refine G [9] ?_
  refine zaa (zam U27 rfl rfl (by kernel_rfl) (by kernel_rfl) (by kernel_rfl) (c := true) (by rw [za6]; simp; omega)) rfl rfl ?_
  refine G [2] ?_
  refine zaa (zae (s := ⟨#[116]⟩) (c := true) (by decide)) rfl rfl ?_
  refine G [9, 9, 0] ?_
  exact yE
set_option maxHeartbeats 2000000 in
theorem refCheck5_s (t : ByteArray) (n a b : Int) (ok : SE.OK ⟨5, t, n, a, b⟩) : Fn prog 25 [.agg (SE.cells ⟨5, t, n, a, b⟩)] (.p (.v (.int .i64 (seE ⟨5, t, n, a, b⟩)))) [] := by
 obtain ⟨hz, hn0, hn1, ha0, ha1⟩ := ok
 dsimp only at hz hn0 hn1 ha0 ha1
 obtain ⟨E, hE⟩ : ∃ E, seE ⟨5, t, n, a, b⟩ = E := ⟨_, rfl⟩
 rw [hE]
 unfold seE at hE
 rw [if_neg (by dsimp only; decide)] at hE
 show Fn prog _ [.agg [.p (.v (.int .i64 5)), .p (.v (.string t)), .p (.v (.int .i64 n)), .p (.v (.int .u32 a)), .p (.v (.int .i64 b))]] _ _
 refine fnI fun w0 A => ?_
 refine G [21] ?_
 refine zac (xs := [.p (.v (.string ⟨#[]⟩)), .p (.v (.string ⟨#[116]⟩)), .p (.v (.string ⟨#[110]⟩)), .p (.v (.string ⟨#[]⟩)), .p (.v (.string ⟨#[116]⟩)), .p (.v (.string ⟨#[]⟩)), .p (.v (.string ⟨#[116]⟩)), .p (.v (.string ⟨#[116]⟩)), .p (.v (.string ⟨#[110]⟩)), .p (.v (.string ⟨#[]⟩)), .p (.v (.string ⟨#[99]⟩))]) (zan (es := [.p (.v (.string ⟨#[]⟩)), .p (.v (.string ⟨#[116]⟩)), .p (.v (.string ⟨#[110]⟩)), .p (.v (.string ⟨#[]⟩)), .p (.v (.string ⟨#[116]⟩)), .p (.v (.string ⟨#[]⟩)), .p (.v (.string ⟨#[116]⟩)), .p (.v (.string ⟨#[116]⟩)), .p (.v (.string ⟨#[110]⟩)), .p (.v (.string ⟨#[]⟩)), .p (.v (.string ⟨#[99]⟩))]) (cs := [.v (.string ⟨#[]⟩), .v (.string ⟨#[116]⟩), .v (.string ⟨#[110]⟩), .v (.string ⟨#[]⟩), .v (.string ⟨#[116]⟩), .v (.string ⟨#[]⟩), .v (.string ⟨#[116]⟩), .v (.string ⟨#[116]⟩), .v (.string ⟨#[110]⟩), .v (.string ⟨#[]⟩), .v (.string ⟨#[99]⟩)]) 15 U89 sz9 zc9 (Nat.le_of_ble_eq_true rfl) (Nat.le_of_ble_eq_true rfl) rfl (by kernel_rfl) (by kernel_rfl) (by kernel_rfl) (Nat.le_of_ble_eq_true rfl)) (by first | rfl | kernel_rfl) rfl ⟨rfl, trivial⟩ ?_
 refine G [2] ?_
 refine zac (zai U89 sz9 (by omega) (by omega) (show _ = 5 from rfl)) rfl rfl ⟨rfl, trivial⟩ ?_
 refine zac (zaT U9 rfl rfl) rfl rfl ⟨rfl, trivial⟩ ?_
 refine G [2] ?_
 by_cases ht : t ≠ ⟨#[]⟩
 ·rw [if_pos (show seF ⟨5, t, n, a, b⟩ by simp [seF, isT, isN, isC, *])] at hE
  subst hE
  refine G [5] ?_
  refine zaa (zae (c := true) (by simp [ht])) rfl rfl ?_
  refine G [2] ?_
  refine zaa (zae (s := ⟨#[]⟩) (c := true) (by decide)) rfl rfl ?_
  refine G [27, 9, 0] ?_
  exact yE
 replace ht : t = ⟨#[]⟩ := Decidable.not_not.1 ht
 by_cases hn : n ≠ 0
 ·rw [if_pos (show seF ⟨5, t, n, a, b⟩ by simp [seF, isT, isN, isC, *])] at hE
  subst hE
  refine G [5] ?_
  refine zaa (zae (c := false) (by simp [ht])) rfl rfl ?_
  refine G [7] ?_
  refine zaa (zao (c := true) (by simpa using hn)) rfl rfl ?_
  refine G [2] ?_
  refine zaa (zae (s := ⟨#[]⟩) (c := true) (by decide)) rfl rfl ?_
  refine G [19, 9, 0] ?_
  exact yE
 replace hn : n = 0 := Decidable.not_not.1 hn
 by_cases hq : a = 0 ∧ b = 0
 ·refine G [5] ?_
  refine zaa (zae (c := false) (by simp [ht])) rfl rfl ?_
  refine G [7] ?_
  refine zaa (zao (c := false) (by simp [hn])) rfl rfl ?_
  refine G [9] ?_
  refine zaa (zam U27 rfl rfl (by kernel_rfl) (by kernel_rfl) (by kernel_rfl) (c := false) (by rw [za6]; simp [hq])) rfl rfl ?_
  refine G [7] ?_
  rw [if_neg (show ¬ seF ⟨5, t, n, a, b⟩ by simp [seF, isT, isN, isC, *])] at hE
  rw [seV_5] at hE
  refine G [6] ?_
  refine zaa (zah (s := ⟨#[]⟩) (c := false) (by decide)) rfl rfl ?_
  refine G [16] ?_
  refine zaa (zah (s := ⟨#[]⟩) (c := false) (by decide)) rfl rfl ?_
  refine G [38] ?_
  subst hE
  refine G [3] ?_
  refine zaa (zah (s := ⟨#[]⟩) (c := false) (by decide)) rfl rfl ?_
  refine G [9, 9, 0] ?_
  exact yE
 ·rw [if_pos (show seF ⟨5, t, n, a, b⟩ by simp [seF, isT, isN, isC]; omega)] at hE
  subst hE
  refine G [5] ?_
  refine zaa (zae (c := false) (by simp [ht])) rfl rfl ?_
  refine G [7] ?_
  refine zaa (zao (c := false) (by simp [hn])) rfl rfl ?_
  refine G [9] ?_
  refine zaa (zam U27 rfl rfl (by kernel_rfl) (by kernel_rfl) (by kernel_rfl) (c := true) (by rw [za6]; simp; omega)) rfl rfl ?_
  refine G [2] ?_
  refine zaa (zae (s := ⟨#[]⟩) (c := true) (by decide)) rfl rfl ?_
  refine G [9, 9, 0] ?_
  exact yE
set_option maxHeartbeats 2000000 in
theorem refCheck6_s (t : ByteArray) (n a b : Int) (ok : SE.OK ⟨6, t, n, a, b⟩) : Fn prog 25 [.agg (SE.cells ⟨6, t, n, a, b⟩)] (.p (.v (.int .i64 (seE ⟨6, t, n, a, b⟩)))) [] := by
 obtain ⟨hz, hn0, hn1, ha0, ha1⟩ := ok
 dsimp only at hz hn0 hn1 ha0 ha1
 obtain ⟨E, hE⟩ : ∃ E, seE ⟨6, t, n, a, b⟩ = E := ⟨_, rfl⟩
 rw [hE]
 unfold seE at hE
 rw [if_neg (by dsimp only; decide)] at hE
 show Fn prog _ [.agg [.p (.v (.int .i64 6)), .p (.v (.string t)), .p (.v (.int .i64 n)), .p (.v (.int .u32 a)), .p (.v (.int .i64 b))]] _ _
 have hH := zck t
 have hZ := zeJ
 refine fnI fun w0 A => ?_
 refine G [21] ?_
 refine zac (xs := [.p (.v (.string ⟨#[]⟩)), .p (.v (.string ⟨#[116]⟩)), .p (.v (.string ⟨#[110]⟩)), .p (.v (.string ⟨#[]⟩)), .p (.v (.string ⟨#[116]⟩)), .p (.v (.string ⟨#[]⟩)), .p (.v (.string ⟨#[116]⟩)), .p (.v (.string ⟨#[116]⟩)), .p (.v (.string ⟨#[110]⟩)), .p (.v (.string ⟨#[]⟩)), .p (.v (.string ⟨#[99]⟩))]) (zan (es := [.p (.v (.string ⟨#[]⟩)), .p (.v (.string ⟨#[116]⟩)), .p (.v (.string ⟨#[110]⟩)), .p (.v (.string ⟨#[]⟩)), .p (.v (.string ⟨#[116]⟩)), .p (.v (.string ⟨#[]⟩)), .p (.v (.string ⟨#[116]⟩)), .p (.v (.string ⟨#[116]⟩)), .p (.v (.string ⟨#[110]⟩)), .p (.v (.string ⟨#[]⟩)), .p (.v (.string ⟨#[99]⟩))]) (cs := [.v (.string ⟨#[]⟩), .v (.string ⟨#[116]⟩), .v (.string ⟨#[110]⟩), .v (.string ⟨#[]⟩), .v (.string ⟨#[116]⟩), .v (.string ⟨#[]⟩), .v (.string ⟨#[116]⟩), .v (.string ⟨#[116]⟩), .v (.string ⟨#[110]⟩), .v (.string ⟨#[]⟩), .v (.string ⟨#[99]⟩)]) 15 U89 sz9 zc9 (Nat.le_of_ble_eq_true rfl) (Nat.le_of_ble_eq_true rfl) rfl (by kernel_rfl) (by kernel_rfl) (by kernel_rfl) (Nat.le_of_ble_eq_true rfl)) (by first | rfl | kernel_rfl) rfl ⟨rfl, trivial⟩ ?_
 refine G [2] ?_
 refine zac (zai U89 sz9 (by omega) (by omega) (show _ = 6 from rfl)) rfl rfl ⟨rfl, trivial⟩ ?_
 refine zac (zaT U9 rfl rfl) rfl rfl ⟨rfl, trivial⟩ ?_
 refine G [2] ?_
 by_cases ht : t ≠ ⟨#[]⟩
 ·by_cases hn : n ≠ 0
  ·rw [if_pos (show seF ⟨6, t, n, a, b⟩ by simp [seF, isT, isN, isC, *])] at hE
   subst hE
   refine G [5] ?_
   refine zaa (zae (c := true) (by simp [ht])) rfl rfl ?_
   refine G [2] ?_
   refine zaa (zae (s := ⟨#[116]⟩) (c := false) (by decide)) rfl rfl ?_
   refine G [4] ?_
   refine zaa (zao (c := true) (by simpa using hn)) rfl rfl ?_
   refine G [2] ?_
   refine zaa (zae (s := ⟨#[116]⟩) (c := true) (by decide)) rfl rfl ?_
   refine G [19, 9, 0] ?_
   exact yE
  replace hn : n = 0 := Decidable.not_not.1 hn
  by_cases hq : a = 0 ∧ b = 0
  ·refine G [5] ?_
   refine zaa (zae (c := true) (by simp [ht])) rfl rfl ?_
   refine G [2] ?_
   refine zaa (zae (s := ⟨#[116]⟩) (c := false) (by decide)) rfl rfl ?_
   refine G [4] ?_
   refine zaa (zao (c := false) (by simp [hn])) rfl rfl ?_
   refine G [9] ?_
   refine zaa (zam U27 rfl rfl (by kernel_rfl) (by kernel_rfl) (by kernel_rfl) (c := false) (by rw [za6]; simp [hq])) rfl rfl ?_
   refine G [7] ?_
   rw [if_neg (show ¬ seF ⟨6, t, n, a, b⟩ by simp [seF, isT, isN, isC, *])] at hE
   rw [seV_6] at hE
   refine G [6] ?_
   refine zaa (zah (s := ⟨#[116]⟩) (c := false) (by decide)) rfl rfl ?_
   refine G [16] ?_
   refine zaa (zah (s := ⟨#[116]⟩) (c := false) (by decide)) rfl rfl ?_
   refine G [11] ?_
   by_cases h1 : t = ⟨#[]⟩
   ·rw [if_pos h1] at hE
    subst hE
    refine G [8] ?_
    refine zaa (zah (c := true) (by simp [h1])) rfl rfl ?_
    refine G [9, 9, 0] ?_
    exact yE
   rw [if_neg h1] at hE
   refine G [8] ?_
   refine zaa (zah (c := false) (by simp [h1])) rfl rfl ?_
   refine G [4] ?_
   by_cases h2 : t = zcY
   ·rw [if_pos h2] at hE
    subst hE
    refine G [8] ?_
    (first | refine za1 rfl ?_ | refine zaw (fun n => 93 + 1000 * n) (hZ) rfl rfl func59 rfl rfl (by first | rfl | simp [AV.okInL, AV.okIn, zaj]) rfl rfl rfl (by first | exact trivial | exact ⟨rfl, trivial⟩ | exact ⟨rfl, rfl, trivial⟩ | exact ⟨rfl, rfl, rfl, rfl, rfl, trivial⟩) rfl rfl rfl ?_)
    refine zaa (zah (c := true) (by simp [h2])) rfl rfl ?_
    refine G [9, 9, 0] ?_
    exact yE
   rw [if_neg h2] at hE
   refine G [8] ?_
   (first | refine za1 rfl ?_ | refine zaw (fun n => 93 + 1000 * n) (hZ) rfl rfl func59 rfl rfl (by first | rfl | simp [AV.okInL, AV.okIn, zaj]) rfl rfl rfl (by first | exact trivial | exact ⟨rfl, trivial⟩ | exact ⟨rfl, rfl, trivial⟩ | exact ⟨rfl, rfl, rfl, rfl, rfl, trivial⟩) rfl rfl rfl ?_)
   refine zaa (zah (c := false) (by simp [h2])) rfl rfl ?_
   refine G [4] ?_
   subst hE
   refine G [3] ?_
   refine zaa (zah (s := ⟨#[116]⟩) (c := true) (by decide)) rfl rfl ?_
   refine G [7] ?_
   refine cV hH ?_
   refine G [3, 9, 0] ?_
   exact yE
  ·rw [if_pos (show seF ⟨6, t, n, a, b⟩ by simp [seF, isT, isN, isC]; omega)] at hE
   subst hE
   refine G [5] ?_
   refine zaa (zae (c := true) (by simp [ht])) rfl rfl ?_
   refine G [2] ?_
   refine zaa (zae (s := ⟨#[116]⟩) (c := false) (by decide)) rfl rfl ?_
   refine G [4] ?_
   refine zaa (zao (c := false) (by simp [hn])) rfl rfl ?_
   refine G [9] ?_
   refine zaa (zam U27 rfl rfl (by kernel_rfl) (by kernel_rfl) (by kernel_rfl) (c := true) (by rw [za6]; simp; omega)) rfl rfl ?_
   refine G [2] ?_
   refine zaa (zae (s := ⟨#[116]⟩) (c := true) (by decide)) rfl rfl ?_
   refine G [9, 9, 0] ?_
   exact yE
 replace ht : t = ⟨#[]⟩ := Decidable.not_not.1 ht
 by_cases hn : n ≠ 0
 ·rw [if_pos (show seF ⟨6, t, n, a, b⟩ by simp [seF, isT, isN, isC, *])] at hE
  subst hE
  refine G [5] ?_
  refine zaa (zae (c := false) (by simp [ht])) rfl rfl ?_
  refine G [7] ?_
  refine zaa (zao (c := true) (by simpa using hn)) rfl rfl ?_
  refine G [2] ?_
  refine zaa (zae (s := ⟨#[116]⟩) (c := true) (by decide)) rfl rfl ?_
  refine G [19, 9, 0] ?_
  exact yE
 replace hn : n = 0 := Decidable.not_not.1 hn
 by_cases hq : a = 0 ∧ b = 0
 ·refine G [5] ?_
  refine zaa (zae (c := false) (by simp [ht])) rfl rfl ?_
  refine G [7] ?_
  refine zaa (zao (c := false) (by simp [hn])) rfl rfl ?_
  refine G [9] ?_
  refine zaa (zam U27 rfl rfl (by kernel_rfl) (by kernel_rfl) (by kernel_rfl) (c := false) (by rw [za6]; simp [hq])) rfl rfl ?_
  refine G [7] ?_
  rw [if_neg (show ¬ seF ⟨6, t, n, a, b⟩ by simp [seF, isT, isN, isC, *])] at hE
  rw [seV_6] at hE
  refine G [6] ?_
  refine zaa (zah (s := ⟨#[116]⟩) (c := false) (by decide)) rfl rfl ?_
  refine G [16] ?_
  refine zaa (zah (s := ⟨#[116]⟩) (c := false) (by decide)) rfl rfl ?_
  refine G [11] ?_
  by_cases h1 : t = ⟨#[]⟩
  ·rw [if_pos h1] at hE
   subst hE
   refine G [8] ?_
   refine zaa (zah (c := true) (by simp [h1])) rfl rfl ?_
   refine G [9, 9, 0] ?_
   exact yE
  rw [if_neg h1] at hE
  refine G [8] ?_
  refine zaa (zah (c := false) (by simp [h1])) rfl rfl ?_
  refine G [4] ?_
  by_cases h2 : t = zcY
  ·rw [if_pos h2] at hE
   subst hE
   refine G [8] ?_
   (first | refine za1 rfl ?_ | refine zaw (fun n => 93 + 1000 * n) (hZ) rfl rfl func59 rfl rfl (by first | rfl | simp [AV.okInL, AV.okIn, zaj]) rfl rfl rfl (by first | exact trivial | exact ⟨rfl, trivial⟩ | exact ⟨rfl, rfl, trivial⟩ | exact ⟨rfl, rfl, rfl, rfl, rfl, trivial⟩) rfl rfl rfl ?_)
   refine zaa (zah (c := true) (by simp [h2])) rfl rfl ?_
   refine G [9, 9, 0] ?_
   exact yE
  rw [if_neg h2] at hE
  refine G [8] ?_
  (first | refine za1 rfl ?_ | refine zaw (fun n => 93 + 1000 * n) (hZ) rfl rfl func59 rfl rfl (by first | rfl | simp [AV.okInL, AV.okIn, zaj]) rfl rfl rfl (by first | exact trivial | exact ⟨rfl, trivial⟩ | exact ⟨rfl, rfl, trivial⟩ | exact ⟨rfl, rfl, rfl, rfl, rfl, trivial⟩) rfl rfl rfl ?_)
  refine zaa (zah (c := false) (by simp [h2])) rfl rfl ?_
  refine G [4] ?_
  subst hE
  refine G [3] ?_
  refine zaa (zah (s := ⟨#[116]⟩) (c := true) (by decide)) rfl rfl ?_
  refine G [7] ?_
  refine cV hH ?_
  refine G [3, 9, 0] ?_
  exact yE
 ·rw [if_pos (show seF ⟨6, t, n, a, b⟩ by simp [seF, isT, isN, isC]; omega)] at hE
  subst hE
  refine G [5] ?_
  refine zaa (zae (c := false) (by simp [ht])) rfl rfl ?_
  refine G [7] ?_
  refine zaa (zao (c := false) (by simp [hn])) rfl rfl ?_
  refine G [9] ?_
  refine zaa (zam U27 rfl rfl (by kernel_rfl) (by kernel_rfl) (by kernel_rfl) (c := true) (by rw [za6]; simp; omega)) rfl rfl ?_
  refine G [2] ?_
  refine zaa (zae (s := ⟨#[116]⟩) (c := true) (by decide)) rfl rfl ?_
  refine G [9, 9, 0] ?_
  exact yE
set_option maxHeartbeats 2000000 in
theorem refCheck7_s (t : ByteArray) (n a b : Int) (ok : SE.OK ⟨7, t, n, a, b⟩) : Fn prog 25 [.agg (SE.cells ⟨7, t, n, a, b⟩)] (.p (.v (.int .i64 (seE ⟨7, t, n, a, b⟩)))) [] := by
 obtain ⟨hz, hn0, hn1, ha0, ha1⟩ := ok
 dsimp only at hz hn0 hn1 ha0 ha1
 obtain ⟨E, hE⟩ : ∃ E, seE ⟨7, t, n, a, b⟩ = E := ⟨_, rfl⟩
 rw [hE]
 unfold seE at hE
 rw [if_neg (by dsimp only; decide)] at hE
 show Fn prog _ [.agg [.p (.v (.int .i64 7)), .p (.v (.string t)), .p (.v (.int .i64 n)), .p (.v (.int .u32 a)), .p (.v (.int .i64 b))]] _ _
 have hEn := refEnd_s t hz
 obtain ⟨ea, eb, hen⟩ := enR_e t
 rw [hen] at hEn
 refine fnI fun w0 A => ?_
 refine G [21] ?_
 refine zac (xs := [.p (.v (.string ⟨#[]⟩)), .p (.v (.string ⟨#[116]⟩)), .p (.v (.string ⟨#[110]⟩)), .p (.v (.string ⟨#[]⟩)), .p (.v (.string ⟨#[116]⟩)), .p (.v (.string ⟨#[]⟩)), .p (.v (.string ⟨#[116]⟩)), .p (.v (.string ⟨#[116]⟩)), .p (.v (.string ⟨#[110]⟩)), .p (.v (.string ⟨#[]⟩)), .p (.v (.string ⟨#[99]⟩))]) (zan (es := [.p (.v (.string ⟨#[]⟩)), .p (.v (.string ⟨#[116]⟩)), .p (.v (.string ⟨#[110]⟩)), .p (.v (.string ⟨#[]⟩)), .p (.v (.string ⟨#[116]⟩)), .p (.v (.string ⟨#[]⟩)), .p (.v (.string ⟨#[116]⟩)), .p (.v (.string ⟨#[116]⟩)), .p (.v (.string ⟨#[110]⟩)), .p (.v (.string ⟨#[]⟩)), .p (.v (.string ⟨#[99]⟩))]) (cs := [.v (.string ⟨#[]⟩), .v (.string ⟨#[116]⟩), .v (.string ⟨#[110]⟩), .v (.string ⟨#[]⟩), .v (.string ⟨#[116]⟩), .v (.string ⟨#[]⟩), .v (.string ⟨#[116]⟩), .v (.string ⟨#[116]⟩), .v (.string ⟨#[110]⟩), .v (.string ⟨#[]⟩), .v (.string ⟨#[99]⟩)]) 15 U89 sz9 zc9 (Nat.le_of_ble_eq_true rfl) (Nat.le_of_ble_eq_true rfl) rfl (by kernel_rfl) (by kernel_rfl) (by kernel_rfl) (Nat.le_of_ble_eq_true rfl)) (by first | rfl | kernel_rfl) rfl ⟨rfl, trivial⟩ ?_
 refine G [2] ?_
 refine zac (zai U89 sz9 (by omega) (by omega) (show _ = 7 from rfl)) rfl rfl ⟨rfl, trivial⟩ ?_
 refine zac (zaT U9 rfl rfl) rfl rfl ⟨rfl, trivial⟩ ?_
 refine G [2] ?_
 by_cases ht : t ≠ ⟨#[]⟩
 ·by_cases hn : n ≠ 0
  ·rw [if_pos (show seF ⟨7, t, n, a, b⟩ by simp [seF, isT, isN, isC, *])] at hE
   subst hE
   refine G [5] ?_
   refine zaa (zae (c := true) (by simp [ht])) rfl rfl ?_
   refine G [2] ?_
   refine zaa (zae (s := ⟨#[116]⟩) (c := false) (by decide)) rfl rfl ?_
   refine G [4] ?_
   refine zaa (zao (c := true) (by simpa using hn)) rfl rfl ?_
   refine G [2] ?_
   refine zaa (zae (s := ⟨#[116]⟩) (c := true) (by decide)) rfl rfl ?_
   refine G [19, 9, 0] ?_
   exact yE
  replace hn : n = 0 := Decidable.not_not.1 hn
  by_cases hq : a = 0 ∧ b = 0
  ·refine G [5] ?_
   refine zaa (zae (c := true) (by simp [ht])) rfl rfl ?_
   refine G [2] ?_
   refine zaa (zae (s := ⟨#[116]⟩) (c := false) (by decide)) rfl rfl ?_
   refine G [4] ?_
   refine zaa (zao (c := false) (by simp [hn])) rfl rfl ?_
   refine G [9] ?_
   refine zaa (zam U27 rfl rfl (by kernel_rfl) (by kernel_rfl) (by kernel_rfl) (c := false) (by rw [za6]; simp [hq])) rfl rfl ?_
   refine G [7] ?_
   rw [if_neg (show ¬ seF ⟨7, t, n, a, b⟩ by simp [seF, isT, isN, isC, *])] at hE
   rw [seV_7] at hE
   refine G [6] ?_
   refine zaa (zah (s := ⟨#[116]⟩) (c := false) (by decide)) rfl rfl ?_
   refine G [16] ?_
   refine zaa (zah (s := ⟨#[116]⟩) (c := false) (by decide)) rfl rfl ?_
   refine G [11] ?_
   subst hE
   refine G [4] ?_
   refine cV hEn ?_
   refine G [14, 9, 0] ?_
   exact yE
  ·rw [if_pos (show seF ⟨7, t, n, a, b⟩ by simp [seF, isT, isN, isC]; omega)] at hE
   subst hE
   refine G [5] ?_
   refine zaa (zae (c := true) (by simp [ht])) rfl rfl ?_
   refine G [2] ?_
   refine zaa (zae (s := ⟨#[116]⟩) (c := false) (by decide)) rfl rfl ?_
   refine G [4] ?_
   refine zaa (zao (c := false) (by simp [hn])) rfl rfl ?_
   refine G [9] ?_
   refine zaa (zam U27 rfl rfl (by kernel_rfl) (by kernel_rfl) (by kernel_rfl) (c := true) (by rw [za6]; simp; omega)) rfl rfl ?_
   refine G [2] ?_
   refine zaa (zae (s := ⟨#[116]⟩) (c := true) (by decide)) rfl rfl ?_
   refine G [9, 9, 0] ?_
   exact yE
 replace ht : t = ⟨#[]⟩ := Decidable.not_not.1 ht
 by_cases hn : n ≠ 0
 ·rw [if_pos (show seF ⟨7, t, n, a, b⟩ by simp [seF, isT, isN, isC, *])] at hE
  subst hE
  refine G [5] ?_
  refine zaa (zae (c := false) (by simp [ht])) rfl rfl ?_
  refine G [7] ?_
  refine zaa (zao (c := true) (by simpa using hn)) rfl rfl ?_
  refine G [2] ?_
  refine zaa (zae (s := ⟨#[116]⟩) (c := true) (by decide)) rfl rfl ?_
  refine G [19, 9, 0] ?_
  exact yE
 replace hn : n = 0 := Decidable.not_not.1 hn
 by_cases hq : a = 0 ∧ b = 0
 ·refine G [5] ?_
  refine zaa (zae (c := false) (by simp [ht])) rfl rfl ?_
  refine G [7] ?_
  refine zaa (zao (c := false) (by simp [hn])) rfl rfl ?_
  refine G [9] ?_
  refine zaa (zam U27 rfl rfl (by kernel_rfl) (by kernel_rfl) (by kernel_rfl) (c := false) (by rw [za6]; simp [hq])) rfl rfl ?_
  refine G [7] ?_
  rw [if_neg (show ¬ seF ⟨7, t, n, a, b⟩ by simp [seF, isT, isN, isC, *])] at hE
  rw [seV_7] at hE
  refine G [6] ?_
  refine zaa (zah (s := ⟨#[116]⟩) (c := false) (by decide)) rfl rfl ?_
  refine G [16] ?_
  refine zaa (zah (s := ⟨#[116]⟩) (c := false) (by decide)) rfl rfl ?_
  refine G [11] ?_
  subst hE
  refine G [4] ?_
  refine cV hEn ?_
  refine G [14, 9, 0] ?_
  exact yE
 ·rw [if_pos (show seF ⟨7, t, n, a, b⟩ by simp [seF, isT, isN, isC]; omega)] at hE
  subst hE
  refine G [5] ?_
  refine zaa (zae (c := false) (by simp [ht])) rfl rfl ?_
  refine G [7] ?_
  refine zaa (zao (c := false) (by simp [hn])) rfl rfl ?_
  refine G [9] ?_
  refine zaa (zam U27 rfl rfl (by kernel_rfl) (by kernel_rfl) (by kernel_rfl) (c := true) (by rw [za6]; simp; omega)) rfl rfl ?_
  refine G [2] ?_
  refine zaa (zae (s := ⟨#[116]⟩) (c := true) (by decide)) rfl rfl ?_
  refine G [9, 9, 0] ?_
  exact yE
set_option maxHeartbeats 2000000 in
theorem refCheck8_s (t : ByteArray) (n a b : Int) (ok : SE.OK ⟨8, t, n, a, b⟩) : Fn prog 25 [.agg (SE.cells ⟨8, t, n, a, b⟩)] (.p (.v (.int .i64 (seE ⟨8, t, n, a, b⟩)))) [] := by
 obtain ⟨hz, hn0, hn1, ha0, ha1⟩ := ok
 dsimp only at hz hn0 hn1 ha0 ha1
 obtain ⟨E, hE⟩ : ∃ E, seE ⟨8, t, n, a, b⟩ = E := ⟨_, rfl⟩
 rw [hE]
 unfold seE at hE
 rw [if_neg (by dsimp only; decide)] at hE
 show Fn prog _ [.agg [.p (.v (.int .i64 8)), .p (.v (.string t)), .p (.v (.int .i64 n)), .p (.v (.int .u32 a)), .p (.v (.int .i64 b))]] _ _
 refine fnI fun w0 A => ?_
 refine G [21] ?_
 refine zac (xs := [.p (.v (.string ⟨#[]⟩)), .p (.v (.string ⟨#[116]⟩)), .p (.v (.string ⟨#[110]⟩)), .p (.v (.string ⟨#[]⟩)), .p (.v (.string ⟨#[116]⟩)), .p (.v (.string ⟨#[]⟩)), .p (.v (.string ⟨#[116]⟩)), .p (.v (.string ⟨#[116]⟩)), .p (.v (.string ⟨#[110]⟩)), .p (.v (.string ⟨#[]⟩)), .p (.v (.string ⟨#[99]⟩))]) (zan (es := [.p (.v (.string ⟨#[]⟩)), .p (.v (.string ⟨#[116]⟩)), .p (.v (.string ⟨#[110]⟩)), .p (.v (.string ⟨#[]⟩)), .p (.v (.string ⟨#[116]⟩)), .p (.v (.string ⟨#[]⟩)), .p (.v (.string ⟨#[116]⟩)), .p (.v (.string ⟨#[116]⟩)), .p (.v (.string ⟨#[110]⟩)), .p (.v (.string ⟨#[]⟩)), .p (.v (.string ⟨#[99]⟩))]) (cs := [.v (.string ⟨#[]⟩), .v (.string ⟨#[116]⟩), .v (.string ⟨#[110]⟩), .v (.string ⟨#[]⟩), .v (.string ⟨#[116]⟩), .v (.string ⟨#[]⟩), .v (.string ⟨#[116]⟩), .v (.string ⟨#[116]⟩), .v (.string ⟨#[110]⟩), .v (.string ⟨#[]⟩), .v (.string ⟨#[99]⟩)]) 15 U89 sz9 zc9 (Nat.le_of_ble_eq_true rfl) (Nat.le_of_ble_eq_true rfl) rfl (by kernel_rfl) (by kernel_rfl) (by kernel_rfl) (Nat.le_of_ble_eq_true rfl)) (by first | rfl | kernel_rfl) rfl ⟨rfl, trivial⟩ ?_
 refine G [2] ?_
 refine zac (zai U89 sz9 (by omega) (by omega) (show _ = 8 from rfl)) rfl rfl ⟨rfl, trivial⟩ ?_
 refine zac (zaT U9 rfl rfl) rfl rfl ⟨rfl, trivial⟩ ?_
 refine G [2] ?_
 by_cases ht : t ≠ ⟨#[]⟩
 ·rw [if_pos (show seF ⟨8, t, n, a, b⟩ by simp [seF, isT, isN, isC, *])] at hE
  subst hE
  refine G [5] ?_
  refine zaa (zae (c := true) (by simp [ht])) rfl rfl ?_
  refine G [2] ?_
  refine zaa (zae (s := ⟨#[110]⟩) (c := true) (by decide)) rfl rfl ?_
  refine G [27, 9, 0] ?_
  exact yE
 replace ht : t = ⟨#[]⟩ := Decidable.not_not.1 ht
 by_cases hn : n ≠ 0
 ·by_cases hq : a = 0 ∧ b = 0
  ·refine G [5] ?_
   refine zaa (zae (c := false) (by simp [ht])) rfl rfl ?_
   refine G [7] ?_
   refine zaa (zao (c := true) (by simpa using hn)) rfl rfl ?_
   refine G [2] ?_
   refine zaa (zae (s := ⟨#[110]⟩) (c := false) (by decide)) rfl rfl ?_
   refine G [6] ?_
   refine zaa (zam U27 rfl rfl (by kernel_rfl) (by kernel_rfl) (by kernel_rfl) (c := false) (by rw [za6]; simp [hq])) rfl rfl ?_
   refine G [7] ?_
   rw [if_neg (show ¬ seF ⟨8, t, n, a, b⟩ by simp [seF, isT, isN, isC, *])] at hE
   rw [seV_8] at hE
   by_cases hl : n < 0
   ·rw [if_pos (.inl hl)] at hE
    subst hE
    refine G [6] ?_
    refine zaa (zah (s := ⟨#[110]⟩) (c := true) (by decide)) rfl rfl ?_
    refine G [3] ?_
    refine zaa (zaN (c := true) (by simpa using hl)) rfl rfl ?_
    refine G [14, 9, 0] ?_
    exact yE
   refine G [6] ?_
   refine zaa (zah (s := ⟨#[110]⟩) (c := true) (by decide)) rfl rfl ?_
   refine G [3] ?_
   refine zaa (zaN (c := false) (by simp; omega)) rfl rfl ?_
   refine G [8, 9, 0] ?_
   refine zab _ rfl (fun h => ?_) (fun h => ?_)
   ·have h1 : 65535 < n := by simpa using h
    rw [if_pos (.inr h1)] at hE
    subst hE
    refine G [5, 9, 0] ?_
    exact yE
   have h1 : ¬ 65535 < n := by simpa using h
   clear h
   rw [if_neg (by omega)] at hE
   subst hE
   refine G [3] ?_
   refine zaa (zah (s := ⟨#[110]⟩) (c := false) (by decide)) rfl rfl ?_
   refine G [41] ?_
   refine zaa (zah (s := ⟨#[110]⟩) (c := false) (by decide)) rfl rfl ?_
   refine G [9, 9, 0] ?_
   exact yE
  ·rw [if_pos (show seF ⟨8, t, n, a, b⟩ by simp [seF, isT, isN, isC]; omega)] at hE
   subst hE
   refine G [5] ?_
   refine zaa (zae (c := false) (by simp [ht])) rfl rfl ?_
   refine G [7] ?_
   refine zaa (zao (c := true) (by simpa using hn)) rfl rfl ?_
   refine G [2] ?_
   refine zaa (zae (s := ⟨#[110]⟩) (c := false) (by decide)) rfl rfl ?_
   refine G [6] ?_
   refine zaa (zam U27 rfl rfl (by kernel_rfl) (by kernel_rfl) (by kernel_rfl) (c := true) (by rw [za6]; simp; omega)) rfl rfl ?_
   refine G [2] ?_
   refine zaa (zae (s := ⟨#[110]⟩) (c := true) (by decide)) rfl rfl ?_
   refine G [9, 9, 0] ?_
   exact yE
 replace hn : n = 0 := Decidable.not_not.1 hn
 by_cases hq : a = 0 ∧ b = 0
 ·refine G [5] ?_
  refine zaa (zae (c := false) (by simp [ht])) rfl rfl ?_
  refine G [7] ?_
  refine zaa (zao (c := false) (by simp [hn])) rfl rfl ?_
  refine G [9] ?_
  refine zaa (zam U27 rfl rfl (by kernel_rfl) (by kernel_rfl) (by kernel_rfl) (c := false) (by rw [za6]; simp [hq])) rfl rfl ?_
  refine G [7] ?_
  rw [if_neg (show ¬ seF ⟨8, t, n, a, b⟩ by simp [seF, isT, isN, isC, *])] at hE
  rw [seV_8] at hE
  by_cases hl : n < 0
  ·rw [if_pos (.inl hl)] at hE
   subst hE
   refine G [6] ?_
   refine zaa (zah (s := ⟨#[110]⟩) (c := true) (by decide)) rfl rfl ?_
   refine G [3] ?_
   refine zaa (zaN (c := true) (by simpa using hl)) rfl rfl ?_
   refine G [14, 9, 0] ?_
   exact yE
  refine G [6] ?_
  refine zaa (zah (s := ⟨#[110]⟩) (c := true) (by decide)) rfl rfl ?_
  refine G [3] ?_
  refine zaa (zaN (c := false) (by simp; omega)) rfl rfl ?_
  refine G [8, 9, 0] ?_
  refine zab _ rfl (fun h => ?_) (fun h => ?_)
  ·have h1 : 65535 < n := by simpa using h
   rw [if_pos (.inr h1)] at hE
   subst hE
   refine G [5, 9, 0] ?_
   exact yE
  have h1 : ¬ 65535 < n := by simpa using h
  clear h
  rw [if_neg (by omega)] at hE
  subst hE
  refine G [3] ?_
  refine zaa (zah (s := ⟨#[110]⟩) (c := false) (by decide)) rfl rfl ?_
  refine G [41] ?_
  refine zaa (zah (s := ⟨#[110]⟩) (c := false) (by decide)) rfl rfl ?_
  refine G [9, 9, 0] ?_
  exact yE
 ·rw [if_pos (show seF ⟨8, t, n, a, b⟩ by simp [seF, isT, isN, isC]; omega)] at hE
  subst hE
  refine G [5] ?_
  refine zaa (zae (c := false) (by simp [ht])) rfl rfl ?_
  refine G [7] ?_
  refine zaa (zao (c := false) (by simp [hn])) rfl rfl ?_
  refine G [9] ?_
  refine zaa (zam U27 rfl rfl (by kernel_rfl) (by kernel_rfl) (by kernel_rfl) (c := true) (by rw [za6]; simp; omega)) rfl rfl ?_
  refine G [2] ?_
  refine zaa (zae (s := ⟨#[110]⟩) (c := true) (by decide)) rfl rfl ?_
  refine G [9, 9, 0] ?_
  exact yE
set_option maxHeartbeats 2000000 in
theorem refCheck9_s (t : ByteArray) (n a b : Int) (ok : SE.OK ⟨9, t, n, a, b⟩) : Fn prog 25 [.agg (SE.cells ⟨9, t, n, a, b⟩)] (.p (.v (.int .i64 (seE ⟨9, t, n, a, b⟩)))) [] := by
 obtain ⟨hz, hn0, hn1, ha0, ha1⟩ := ok
 dsimp only at hz hn0 hn1 ha0 ha1
 obtain ⟨E, hE⟩ : ∃ E, seE ⟨9, t, n, a, b⟩ = E := ⟨_, rfl⟩
 rw [hE]
 unfold seE at hE
 rw [if_neg (by dsimp only; decide)] at hE
 show Fn prog _ [.agg [.p (.v (.int .i64 9)), .p (.v (.string t)), .p (.v (.int .i64 n)), .p (.v (.int .u32 a)), .p (.v (.int .i64 b))]] _ _
 refine fnI fun w0 A => ?_
 refine G [21] ?_
 refine zac (xs := [.p (.v (.string ⟨#[]⟩)), .p (.v (.string ⟨#[116]⟩)), .p (.v (.string ⟨#[110]⟩)), .p (.v (.string ⟨#[]⟩)), .p (.v (.string ⟨#[116]⟩)), .p (.v (.string ⟨#[]⟩)), .p (.v (.string ⟨#[116]⟩)), .p (.v (.string ⟨#[116]⟩)), .p (.v (.string ⟨#[110]⟩)), .p (.v (.string ⟨#[]⟩)), .p (.v (.string ⟨#[99]⟩))]) (zan (es := [.p (.v (.string ⟨#[]⟩)), .p (.v (.string ⟨#[116]⟩)), .p (.v (.string ⟨#[110]⟩)), .p (.v (.string ⟨#[]⟩)), .p (.v (.string ⟨#[116]⟩)), .p (.v (.string ⟨#[]⟩)), .p (.v (.string ⟨#[116]⟩)), .p (.v (.string ⟨#[116]⟩)), .p (.v (.string ⟨#[110]⟩)), .p (.v (.string ⟨#[]⟩)), .p (.v (.string ⟨#[99]⟩))]) (cs := [.v (.string ⟨#[]⟩), .v (.string ⟨#[116]⟩), .v (.string ⟨#[110]⟩), .v (.string ⟨#[]⟩), .v (.string ⟨#[116]⟩), .v (.string ⟨#[]⟩), .v (.string ⟨#[116]⟩), .v (.string ⟨#[116]⟩), .v (.string ⟨#[110]⟩), .v (.string ⟨#[]⟩), .v (.string ⟨#[99]⟩)]) 15 U89 sz9 zc9 (Nat.le_of_ble_eq_true rfl) (Nat.le_of_ble_eq_true rfl) rfl (by kernel_rfl) (by kernel_rfl) (by kernel_rfl) (Nat.le_of_ble_eq_true rfl)) (by first | rfl | kernel_rfl) rfl ⟨rfl, trivial⟩ ?_
 refine G [2] ?_
 refine zac (zai U89 sz9 (by omega) (by omega) (show _ = 9 from rfl)) rfl rfl ⟨rfl, trivial⟩ ?_
 refine zac (zaT U9 rfl rfl) rfl rfl ⟨rfl, trivial⟩ ?_
 refine G [2] ?_
 by_cases ht : t ≠ ⟨#[]⟩
 ·rw [if_pos (show seF ⟨9, t, n, a, b⟩ by simp [seF, isT, isN, isC, *])] at hE
  subst hE
  refine G [5] ?_
  refine zaa (zae (c := true) (by simp [ht])) rfl rfl ?_
  refine G [2] ?_
  refine zaa (zae (s := ⟨#[]⟩) (c := true) (by decide)) rfl rfl ?_
  refine G [27, 9, 0] ?_
  exact yE
 replace ht : t = ⟨#[]⟩ := Decidable.not_not.1 ht
 by_cases hn : n ≠ 0
 ·rw [if_pos (show seF ⟨9, t, n, a, b⟩ by simp [seF, isT, isN, isC, *])] at hE
  subst hE
  refine G [5] ?_
  refine zaa (zae (c := false) (by simp [ht])) rfl rfl ?_
  refine G [7] ?_
  refine zaa (zao (c := true) (by simpa using hn)) rfl rfl ?_
  refine G [2] ?_
  refine zaa (zae (s := ⟨#[]⟩) (c := true) (by decide)) rfl rfl ?_
  refine G [19, 9, 0] ?_
  exact yE
 replace hn : n = 0 := Decidable.not_not.1 hn
 by_cases hq : a = 0 ∧ b = 0
 ·refine G [5] ?_
  refine zaa (zae (c := false) (by simp [ht])) rfl rfl ?_
  refine G [7] ?_
  refine zaa (zao (c := false) (by simp [hn])) rfl rfl ?_
  refine G [9] ?_
  refine zaa (zam U27 rfl rfl (by kernel_rfl) (by kernel_rfl) (by kernel_rfl) (c := false) (by rw [za6]; simp [hq])) rfl rfl ?_
  refine G [7] ?_
  rw [if_neg (show ¬ seF ⟨9, t, n, a, b⟩ by simp [seF, isT, isN, isC, *])] at hE
  rw [seV_9] at hE
  refine G [6] ?_
  refine zaa (zah (s := ⟨#[]⟩) (c := false) (by decide)) rfl rfl ?_
  refine G [16] ?_
  refine zaa (zah (s := ⟨#[]⟩) (c := false) (by decide)) rfl rfl ?_
  refine G [38] ?_
  subst hE
  refine G [3] ?_
  refine zaa (zah (s := ⟨#[]⟩) (c := false) (by decide)) rfl rfl ?_
  refine G [9, 9, 0] ?_
  exact yE
 ·rw [if_pos (show seF ⟨9, t, n, a, b⟩ by simp [seF, isT, isN, isC]; omega)] at hE
  subst hE
  refine G [5] ?_
  refine zaa (zae (c := false) (by simp [ht])) rfl rfl ?_
  refine G [7] ?_
  refine zaa (zao (c := false) (by simp [hn])) rfl rfl ?_
  refine G [9] ?_
  refine zaa (zam U27 rfl rfl (by kernel_rfl) (by kernel_rfl) (by kernel_rfl) (c := true) (by rw [za6]; simp; omega)) rfl rfl ?_
  refine G [2] ?_
  refine zaa (zae (s := ⟨#[]⟩) (c := true) (by decide)) rfl rfl ?_
  refine G [9, 9, 0] ?_
  exact yE
set_option maxHeartbeats 2000000 in
theorem refCheck10_s (t : ByteArray) (n a b : Int) (ok : SE.OK ⟨10, t, n, a, b⟩) : Fn prog 25 [.agg (SE.cells ⟨10, t, n, a, b⟩)] (.p (.v (.int .i64 (seE ⟨10, t, n, a, b⟩)))) [] := by
 obtain ⟨hz, hn0, hn1, ha0, ha1⟩ := ok
 dsimp only at hz hn0 hn1 ha0 ha1
 obtain ⟨E, hE⟩ : ∃ E, seE ⟨10, t, n, a, b⟩ = E := ⟨_, rfl⟩
 rw [hE]
 unfold seE at hE
 rw [if_neg (by dsimp only; decide)] at hE
 show Fn prog _ [.agg [.p (.v (.int .i64 10)), .p (.v (.string t)), .p (.v (.int .i64 n)), .p (.v (.int .u32 a)), .p (.v (.int .i64 b))]] _ _
 have hC := zek a b ha0 ha1
 change Fn prog _ [.agg [.p (.v (.int .u32 a)), .p (.v (.int .i64 b))]] _ _ at hC
 refine fnI fun w0 A => ?_
 refine G [21] ?_
 refine zac (xs := [.p (.v (.string ⟨#[]⟩)), .p (.v (.string ⟨#[116]⟩)), .p (.v (.string ⟨#[110]⟩)), .p (.v (.string ⟨#[]⟩)), .p (.v (.string ⟨#[116]⟩)), .p (.v (.string ⟨#[]⟩)), .p (.v (.string ⟨#[116]⟩)), .p (.v (.string ⟨#[116]⟩)), .p (.v (.string ⟨#[110]⟩)), .p (.v (.string ⟨#[]⟩)), .p (.v (.string ⟨#[99]⟩))]) (zan (es := [.p (.v (.string ⟨#[]⟩)), .p (.v (.string ⟨#[116]⟩)), .p (.v (.string ⟨#[110]⟩)), .p (.v (.string ⟨#[]⟩)), .p (.v (.string ⟨#[116]⟩)), .p (.v (.string ⟨#[]⟩)), .p (.v (.string ⟨#[116]⟩)), .p (.v (.string ⟨#[116]⟩)), .p (.v (.string ⟨#[110]⟩)), .p (.v (.string ⟨#[]⟩)), .p (.v (.string ⟨#[99]⟩))]) (cs := [.v (.string ⟨#[]⟩), .v (.string ⟨#[116]⟩), .v (.string ⟨#[110]⟩), .v (.string ⟨#[]⟩), .v (.string ⟨#[116]⟩), .v (.string ⟨#[]⟩), .v (.string ⟨#[116]⟩), .v (.string ⟨#[116]⟩), .v (.string ⟨#[110]⟩), .v (.string ⟨#[]⟩), .v (.string ⟨#[99]⟩)]) 15 U89 sz9 zc9 (Nat.le_of_ble_eq_true rfl) (Nat.le_of_ble_eq_true rfl) rfl (by kernel_rfl) (by kernel_rfl) (by kernel_rfl) (Nat.le_of_ble_eq_true rfl)) (by first | rfl | kernel_rfl) rfl ⟨rfl, trivial⟩ ?_
 refine G [2] ?_
 refine zac (zai U89 sz9 (by omega) (by omega) (show _ = 10 from rfl)) rfl rfl ⟨rfl, trivial⟩ ?_
 refine zac (zaT U9 rfl rfl) rfl rfl ⟨rfl, trivial⟩ ?_
 refine G [2] ?_
 by_cases ht : t ≠ ⟨#[]⟩
 ·rw [if_pos (show seF ⟨10, t, n, a, b⟩ by simp [seF, isT, isN, isC, *])] at hE
  subst hE
  refine G [5] ?_
  refine zaa (zae (c := true) (by simp [ht])) rfl rfl ?_
  refine G [2] ?_
  refine zaa (zae (s := ⟨#[99]⟩) (c := true) (by decide)) rfl rfl ?_
  refine G [27, 9, 0] ?_
  exact yE
 replace ht : t = ⟨#[]⟩ := Decidable.not_not.1 ht
 by_cases hn : n ≠ 0
 ·rw [if_pos (show seF ⟨10, t, n, a, b⟩ by simp [seF, isT, isN, isC, *])] at hE
  subst hE
  refine G [5] ?_
  refine zaa (zae (c := false) (by simp [ht])) rfl rfl ?_
  refine G [7] ?_
  refine zaa (zao (c := true) (by simpa using hn)) rfl rfl ?_
  refine G [2] ?_
  refine zaa (zae (s := ⟨#[99]⟩) (c := true) (by decide)) rfl rfl ?_
  refine G [19, 9, 0] ?_
  exact yE
 replace hn : n = 0 := Decidable.not_not.1 hn
 by_cases hq : a = 0 ∧ b = 0
 ·refine G [5] ?_
  refine zaa (zae (c := false) (by simp [ht])) rfl rfl ?_
  refine G [7] ?_
  refine zaa (zao (c := false) (by simp [hn])) rfl rfl ?_
  refine G [9] ?_
  refine zaa (zam U27 rfl rfl (by kernel_rfl) (by kernel_rfl) (by kernel_rfl) (c := false) (by rw [za6]; simp [hq])) rfl rfl ?_
  refine G [7] ?_
  rw [if_neg (show ¬ seF ⟨10, t, n, a, b⟩ by simp [seF, isT, isN, isC, *])] at hE
  rw [seV_10] at hE
  refine G [6] ?_
  refine zaa (zah (s := ⟨#[99]⟩) (c := false) (by decide)) rfl rfl ?_
  refine G [16] ?_
  refine zaa (zah (s := ⟨#[99]⟩) (c := true) (by decide)) rfl rfl ?_
  refine G [3] ?_
  subst hE
  refine G [4] ?_
  refine cV hC ?_
  refine G [3, 9, 0] ?_
  exact yE
 ·refine G [5] ?_
  refine zaa (zae (c := false) (by simp [ht])) rfl rfl ?_
  refine G [7] ?_
  refine zaa (zao (c := false) (by simp [hn])) rfl rfl ?_
  refine G [9] ?_
  refine zaa (zam U27 rfl rfl (by kernel_rfl) (by kernel_rfl) (by kernel_rfl) (c := true) (by rw [za6]; simp; omega)) rfl rfl ?_
  refine G [2] ?_
  refine zaa (zae (s := ⟨#[99]⟩) (c := false) (by decide)) rfl rfl ?_
  refine G [4] ?_
  rw [if_neg (show ¬ seF ⟨10, t, n, a, b⟩ by simp [seF, isT, isN, isC, *])] at hE
  rw [seV_10] at hE
  refine G [6] ?_
  refine zaa (zah (s := ⟨#[99]⟩) (c := false) (by decide)) rfl rfl ?_
  refine G [16] ?_
  refine zaa (zah (s := ⟨#[99]⟩) (c := true) (by decide)) rfl rfl ?_
  refine G [3] ?_
  subst hE
  refine G [4] ?_
  refine cV hC ?_
  refine G [3, 9, 0] ?_
  exact yE
theorem refCheckBad_s (s : SE) (hk : s.k < 1 ∨ 10 < s.k) : Fn prog 25 [.agg s.cells] (.p (.v (.int .i64 (seE s)))) [] := by
 have hE : seE s = 2 := if_pos hk
 rw [hE]
 obtain ⟨k, t, n, a, b⟩ := s
 dsimp only at hk
 show Fn prog _ [.agg [.p (.v (.int .i64 k)), .p (.v (.string t)), .p (.v (.int .i64 n)), .p (.v (.int .u32 a)), .p (.v (.int .i64 b))]] _ _
 refine fnI fun w0 A => ?_
 refine G [15, 2, 1, 9, 0] ?_
 refine zab _ rfl (fun h => ?_) (fun h => ?_)
 ·refine G [5, 9, 0] ?_
  exact yE
 ·exact absurd hk (by simp at h; omega)
theorem zaK (s : SE) (ok : s.OK) : Fn prog 25 [.agg s.cells] (.p (.v (.int .i64 (seE s)))) [] := by
 by_cases hk : s.k < 1 ∨ 10 < s.k
 ·exact refCheckBad_s s hk
 obtain ⟨k, t, n, a, b⟩ := s
 dsimp only at hk
 have : k = 1 ∨ k = 2 ∨ k = 3 ∨ k = 4 ∨ k = 5 ∨ k = 6 ∨ k = 7 ∨ k = 8 ∨ k = 9 ∨ k = 10 := by omega
 rcases this with rfl | rfl | rfl | rfl | rfl | rfl | rfl | rfl | rfl | rfl
 ·exact refCheck1_s t n a b ok
 ·exact refCheck2_s t n a b ok
 ·exact refCheck3_s t n a b ok
 ·exact refCheck4_s t n a b ok
 ·exact refCheck5_s t n a b ok
 ·exact refCheck6_s t n a b ok
 ·exact refCheck7_s t n a b ok
 ·exact refCheck8_s t n a b ok
 ·exact refCheck9_s t n a b ok
 ·exact refCheck10_s t n a b ok
end Go.Proofs.YtkdfdcodkeclmaaGreatDoor
