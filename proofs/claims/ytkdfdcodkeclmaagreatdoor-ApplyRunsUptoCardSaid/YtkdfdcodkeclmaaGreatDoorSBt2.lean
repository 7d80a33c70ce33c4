/- the reference's SettingFault, kind by kind, over data. (Printed by wip/mkbt.py.) -/
import Derived.Test.YtkdfdcodkeclmaaGreatDoorSBt1
namespace Go.Proofs.YtkdfdcodkeclmaaGreatDoor
open Tryz
open Go.RowKit Go.Sort
set_option linter.unusedVariables false
set_option linter.unusedSimpArgs false
set_option maxRecDepth 100000
set_option maxHeartbeats 2000000 in
theorem refCheck1_s (t : ByteArray) (n a b : Int) (ok : SE.OK ⟨1, t, n, a, b⟩) : Fn prog 25 [.agg (SE.cells ⟨1, t, n, a, b⟩)] (.p (.v (.int .i64 (seE ⟨1, t, n, a, b⟩)))) [] := by
 obtain ⟨hz, hn0, hn1, ha0, ha1⟩ := ok
 dsimp only at hz hn0 hn1 ha0 ha1
 obtain ⟨E, hE⟩ : ∃ E, seE ⟨1, t, n, a, b⟩ = E := ⟨_, rfl⟩
 rw [hE]
 unfold seE at hE
 rw [if_neg (by dsimp only; decide)] at hE
 show Fn prog _ [.agg [.p (.v (.int .i64 1)), .p (.v (.string t)), .p (.v (.int .i64 n)), .p (.v (.int .u32 a)), .p (.v (.int .i64 b))]] _ _
 have hH := zcF t
 refine zaw F25 rfl (qE rfl) fun w0 A => zaa<| tx<| wG (zaK (X := .agg _) 1 rfl) rfl<| wA rfl<| zab<| zaa<| zaa<| tx<| wF zav rfl<| wL U3 rfl<| wP za8 rfl<| wM rfl<| wF zav rfl<| wL U3 rfl<| wP zbA rfl<| wP zaj rfl<| zab<| zaf<| zag rfl<| zae<| zaa<| tx<| zah (xs := [.p (.v (.string ⟨#[]⟩)), .p (.v (.string ⟨#[116]⟩)), .p (.v (.string ⟨#[110]⟩)), .p (.v (.string ⟨#[]⟩)), .p (.v (.string ⟨#[116]⟩)), .p (.v (.string ⟨#[]⟩)), .p (.v (.string ⟨#[116]⟩)), .p (.v (.string ⟨#[116]⟩)), .p (.v (.string ⟨#[110]⟩)), .p (.v (.string ⟨#[]⟩)), .p (.v (.string ⟨#[99]⟩))]) (zaO (es := [.p (.v (.string ⟨#[]⟩)), .p (.v (.string ⟨#[116]⟩)), .p (.v (.string ⟨#[110]⟩)), .p (.v (.string ⟨#[]⟩)), .p (.v (.string ⟨#[116]⟩)), .p (.v (.string ⟨#[]⟩)), .p (.v (.string ⟨#[116]⟩)), .p (.v (.string ⟨#[116]⟩)), .p (.v (.string ⟨#[110]⟩)), .p (.v (.string ⟨#[]⟩)), .p (.v (.string ⟨#[99]⟩))]) (cs := [.v (.string ⟨#[]⟩), .v (.string ⟨#[116]⟩), .v (.string ⟨#[110]⟩), .v (.string ⟨#[]⟩), .v (.string ⟨#[116]⟩), .v (.string ⟨#[]⟩), .v (.string ⟨#[116]⟩), .v (.string ⟨#[116]⟩), .v (.string ⟨#[110]⟩), .v (.string ⟨#[]⟩), .v (.string ⟨#[99]⟩)]) 15 U89 sz9 zc9 (Nat.le_of_ble_eq_true rfl) (Nat.le_of_ble_eq_true rfl) rfl (by kernel_rfl) (by kernel_rfl) (by kernel_rfl) (Nat.le_of_ble_eq_true rfl)) (by first | rfl | kernel_rfl) rfl ⟨rfl, trivial⟩ ?_
 refine wF zav rfl<| wL U3 rfl<| wG (zaG U89 sz9 qO qO (show _ = 1 from rfl)) rfl<| wG (zbv U9 rfl rfl) rfl<| wA rfl<| zab ?_
 by_cases ht : t ≠ ⟨#[]⟩
 ·by_cases hn : n ≠ 0
  ·rw [if_pos (show seF ⟨1, t, n, a, b⟩ by simp [seF, isT, isN, isC, *])] at hE
   subst hE
   refine zaa<| zaa<| tx<| wF zaD rfl<| wL U9 rfl<| wP (zay (c := true) (by simp [ht])) rfl ?_
   refine wM rfl<| wM rfl<| wP (zay (s := ⟨#[116]⟩) (c := false) qD) rfl<| wP zao rfl<| wM rfl<| wF zaM rfl<| wL U3 rfl<| wP (zaT (c := true) (by simpa using hn)) rfl ?_
   refine wM rfl<| wM rfl<| wP (zay (s := ⟨#[116]⟩) (c := true) qD) rfl<| wP zao rfl<| wP zaj rfl<| wM rfl<| wS rfl<| wS rfl<| wS rfl<| wS rfl<| wS rfl<| wS rfl<| wS rfl<| wS rfl<| wP zao rfl<| zab<| zaf<| zax rfl<| zaa<| tx<| wA rfl<| zab<| zai<| zau ?_
   refine yT ?_ ?_
   ·exact rfl
   ·exact trivial
  replace hn : n = 0 := Decidable.not_not.1 hn
  by_cases hq : a = 0 ∧ b = 0
  ·refine zaa<| zaa<| tx<| wF zaD rfl<| wL U9 rfl<| wP (zay (c := true) (by simp [ht])) rfl ?_
   refine wM rfl<| wM rfl<| wP (zay (s := ⟨#[116]⟩) (c := false) qD) rfl<| wP zao rfl<| wM rfl<| wF zaM rfl<| wL U3 rfl<| wP (zaT (c := false) (by simp [hn])) rfl ?_
   refine wM rfl<| wS rfl<| wS rfl<| wP zaj rfl<| wP zaj rfl<| wM rfl<| wF za2 rfl<| wN U27 sz27 rfl ?_
   refine wP (zaQ pl27 zr27 rfl rfl) rfl<| wP (zaP U27 rfl rfl (by kernel_rfl) (by kernel_rfl) (by kernel_rfl) (c := false) (by rw [zbs]; simp [hq])) rfl ?_
   refine wM rfl<| wS rfl<| wS rfl<| wP zaj rfl<| wP zaj rfl<| zab<| zaf<| zag rfl ?_
   rw [if_neg (show ¬ seF ⟨1, t, n, a, b⟩ by simp [seF, isT, isN, isC, *])] at hE
   rw [seV_1] at hE
   refine zae<| zaa<| zak<| zaa<| tx<| wM rfl<| wP (zaE (s := ⟨#[116]⟩) (c := false) qD) rfl<| wM rfl<| wS rfl<| wS rfl<| wS rfl<| wS rfl<| wS rfl<| wS rfl<| wS rfl<| wS rfl<| wP zaj rfl<| wA rfl<| zab<| zaf<| zag rfl<| zaa<| tx<| wM rfl ?_
   refine wP (zaE (s := ⟨#[116]⟩) (c := false) qD) rfl<| wA rfl<| zab<| zaf<| zag rfl<| zaa<| tx<| wF zav rfl<| wL U3 rfl<| wP zaz rfl<| wA rfl<| zab<| zaf<| zag rfl<| zaa<| tx<| wF zav rfl<| wL U3 rfl<| wP zaz rfl<| wM rfl<| wS rfl<| wS rfl<| wS rfl<| wP zaj rfl ?_
   refine wA rfl<| zab<| zaf<| zag rfl<| zaa<| zaB 4 qK<| wF zav rfl<| wL U3 rfl<| wP zaz rfl<| wM rfl<| wS rfl<| wS rfl<| wS rfl<| wS rfl<| wP zaj rfl<| wA rfl<| zab ⟨qK, ?_⟩
   refine zaf<| zag rfl ?_
   subst hE
   refine zaa<| tx<| wM rfl<| wP (zaE (s := ⟨#[116]⟩) (c := true) qD) rfl<| wA rfl<| zab<| zaf<| zax rfl<| zaa<| tx<| wF zaD rfl<| wL U9 rfl<| yV (fun n => 101 + 1000 * n) (hH) F55 ?_
   refine wA rfl<| zab<| zai<| zaU<| zau<| yT ?_ ?_
   ·exact rfl
   ·exact trivial
  ·rw [if_pos (show seF ⟨1, t, n, a, b⟩ by simp [seF, isT, isN, isC]; omega)] at hE
   subst hE
   refine zaa<| zaa<| tx<| wF zaD rfl<| wL U9 rfl<| wP (zay (c := true) (by simp [ht])) rfl ?_
   refine wM rfl<| wM rfl<| wP (zay (s := ⟨#[116]⟩) (c := false) qD) rfl<| wP zao rfl<| wM rfl<| wF zaM rfl<| wL U3 rfl<| wP (zaT (c := false) (by simp [hn])) rfl ?_
   refine wM rfl<| wS rfl<| wS rfl<| wP zaj rfl<| wP zaj rfl<| wM rfl<| wF za2 rfl<| wN U27 sz27 rfl ?_
   refine wP (zaQ pl27 zr27 rfl rfl) rfl<| wP (zaP U27 rfl rfl (by kernel_rfl) (by kernel_rfl) (by kernel_rfl) (c := true) (by rw [zbs]; simp; omega)) rfl ?_
   refine wM rfl<| wM rfl<| wP (zay (s := ⟨#[116]⟩) (c := true) qD) rfl<| wP zao rfl<| wP zaj rfl<| zab<| zaf<| zax rfl<| zaa<| tx<| wA rfl<| zab<| zai<| zau<| yT ?_ ?_
   ·exact rfl
   ·exact trivial
 replace ht : t = ⟨#[]⟩ := Decidable.not_not.1 ht
 by_cases hn : n ≠ 0
 ·rw [if_pos (show seF ⟨1, t, n, a, b⟩ by simp [seF, isT, isN, isC, *])] at hE
  subst hE
  refine zaa<| zaa<| tx<| wF zaD rfl<| wL U9 rfl<| wP (zay (c := false) (by simp [ht])) rfl ?_
  refine wM rfl<| wS rfl<| wS rfl<| wP zaj rfl<| wM rfl<| wF zaM rfl<| wL U3 rfl<| wP (zaT (c := true) (by simpa using hn)) rfl ?_
  refine wM rfl<| wM rfl<| wP (zay (s := ⟨#[116]⟩) (c := true) qD) rfl<| wP zao rfl<| wP zaj rfl<| wM rfl<| wS rfl<| wS rfl<| wS rfl<| wS rfl<| wS rfl<| wS rfl<| wS rfl<| wS rfl<| wP zao rfl<| zab<| zaf<| zax rfl<| zaa<| tx<| wA rfl<| zab<| zai<| zau ?_
  refine yT ?_ ?_
  ·exact rfl
  ·exact trivial
 replace hn : n = 0 := Decidable.not_not.1 hn
 by_cases hq : a = 0 ∧ b = 0
 ·refine zaa<| zaa<| tx<| wF zaD rfl<| wL U9 rfl<| wP (zay (c := false) (by simp [ht])) rfl ?_
  refine wM rfl<| wS rfl<| wS rfl<| wP zaj rfl<| wM rfl<| wF zaM rfl<| wL U3 rfl<| wP (zaT (c := false) (by simp [hn])) rfl ?_
  refine wM rfl<| wS rfl<| wS rfl<| wP zaj rfl<| wP zaj rfl<| wM rfl<| wF za2 rfl<| wN U27 sz27 rfl ?_
  refine wP (zaQ pl27 zr27 rfl rfl) rfl<| wP (zaP U27 rfl rfl (by kernel_rfl) (by kernel_rfl) (by kernel_rfl) (c := false) (by rw [zbs]; simp [hq])) rfl ?_
  refine wM rfl<| wS rfl<| wS rfl<| wP zaj rfl<| wP zaj rfl<| zab<| zaf<| zag rfl ?_
  rw [if_neg (show ¬ seF ⟨1, t, n, a, b⟩ by simp [seF, isT, isN, isC, *])] at hE
  rw [seV_1] at hE
  refine zae<| zaa<| zak<| zaa<| tx<| wM rfl<| wP (zaE (s := ⟨#[116]⟩) (c := false) qD) rfl<| wM rfl<| wS rfl<| wS rfl<| wS rfl<| wS rfl<| wS rfl<| wS rfl<| wS rfl<| wS rfl<| wP zaj rfl<| wA rfl<| zab<| zaf<| zag rfl<| zaa<| tx<| wM rfl ?_
  refine wP (zaE (s := ⟨#[116]⟩) (c := false) qD) rfl<| wA rfl<| zab<| zaf<| zag rfl<| zaa<| tx<| wF zav rfl<| wL U3 rfl<| wP zaz rfl<| wA rfl<| zab<| zaf<| zag rfl<| zaa<| tx<| wF zav rfl<| wL U3 rfl<| wP zaz rfl<| wM rfl<| wS rfl<| wS rfl<| wS rfl<| wP zaj rfl ?_
  refine wA rfl<| zab<| zaf<| zag rfl<| zaa<| zaB 4 qK<| wF zav rfl<| wL U3 rfl<| wP zaz rfl<| wM rfl<| wS rfl<| wS rfl<| wS rfl<| wS rfl<| wP zaj rfl<| wA rfl<| zab ⟨qK, ?_⟩
  refine zaf<| zag rfl ?_
  subst hE
  refine zaa<| tx<| wM rfl<| wP (zaE (s := ⟨#[116]⟩) (c := true) qD) rfl<| wA rfl<| zab<| zaf<| zax rfl<| zaa<| tx<| wF zaD rfl<| wL U9 rfl<| yV (fun n => 101 + 1000 * n) (hH) F55 ?_
  refine wA rfl<| zab<| zai<| zaU<| zau<| yT ?_ ?_
  ·exact rfl
  ·exact trivial
 ·rw [if_pos (show seF ⟨1, t, n, a, b⟩ by simp [seF, isT, isN, isC]; omega)] at hE
  subst hE
  refine zaa<| zaa<| tx<| wF zaD rfl<| wL U9 rfl<| wP (zay (c := false) (by simp [ht])) rfl ?_
  refine wM rfl<| wS rfl<| wS rfl<| wP zaj rfl<| wM rfl<| wF zaM rfl<| wL U3 rfl<| wP (zaT (c := false) (by simp [hn])) rfl ?_
  refine wM rfl<| wS rfl<| wS rfl<| wP zaj rfl<| wP zaj rfl<| wM rfl<| wF za2 rfl<| wN U27 sz27 rfl ?_
  refine wP (zaQ pl27 zr27 rfl rfl) rfl<| wP (zaP U27 rfl rfl (by kernel_rfl) (by kernel_rfl) (by kernel_rfl) (c := true) (by rw [zbs]; simp; omega)) rfl ?_
  refine wM rfl<| wM rfl<| wP (zay (s := ⟨#[116]⟩) (c := true) qD) rfl<| wP zao rfl<| wP zaj rfl<| zab<| zaf<| zax rfl<| zaa<| tx<| wA rfl<| zab<| zai<| zau<| yT ?_ ?_
  ·exact rfl
  ·exact trivial
set_option maxHeartbeats 2000000 in
theorem refCheck2_s (t : ByteArray) (n a b : Int) (ok : SE.OK ⟨2, t, n, a, b⟩) : Fn prog 25 [.agg (SE.cells ⟨2, t, n, a, b⟩)] (.p (.v (.int .i64 (seE ⟨2, t, n, a, b⟩)))) [] := by
 obtain ⟨hz, hn0, hn1, ha0, ha1⟩ := ok
 dsimp only at hz hn0 hn1 ha0 ha1
 obtain ⟨E, hE⟩ : ∃ E, seE ⟨2, t, n, a, b⟩ = E := ⟨_, rfl⟩
 rw [hE]
 unfold seE at hE
 rw [if_neg (by dsimp only; decide)] at hE
 show Fn prog _ [.agg [.p (.v (.int .i64 2)), .p (.v (.string t)), .p (.v (.int .i64 n)), .p (.v (.int .u32 a)), .p (.v (.int .i64 b))]] _ _
 refine zaw F25 rfl (qE rfl) fun w0 A => zaa<| tx<| wG (zaK (X := .agg _) 1 rfl) rfl<| wA rfl<| zab<| zaa<| zaa<| tx<| wF zav rfl<| wL U3 rfl<| wP za8 rfl<| wM rfl<| wF zav rfl<| wL U3 rfl<| wP zbA rfl<| wP zaj rfl<| zab<| zaf<| zag rfl<| zae<| zaa<| tx<| zah (xs := [.p (.v (.string ⟨#[]⟩)), .p (.v (.string ⟨#[116]⟩)), .p (.v (.string ⟨#[110]⟩)), .p (.v (.string ⟨#[]⟩)), .p (.v (.string ⟨#[116]⟩)), .p (.v (.string ⟨#[]⟩)), .p (.v (.string ⟨#[116]⟩)), .p (.v (.string ⟨#[116]⟩)), .p (.v (.string ⟨#[110]⟩)), .p (.v (.string ⟨#[]⟩)), .p (.v (.string ⟨#[99]⟩))]) (zaO (es := [.p (.v (.string ⟨#[]⟩)), .p (.v (.string ⟨#[116]⟩)), .p (.v (.string ⟨#[110]⟩)), .p (.v (.string ⟨#[]⟩)), .p (.v (.string ⟨#[116]⟩)), .p (.v (.string ⟨#[]⟩)), .p (.v (.string ⟨#[116]⟩)), .p (.v (.string ⟨#[116]⟩)), .p (.v (.string ⟨#[110]⟩)), .p (.v (.string ⟨#[]⟩)), .p (.v (.string ⟨#[99]⟩))]) (cs := [.v (.string ⟨#[]⟩), .v (.string ⟨#[116]⟩), .v (.string ⟨#[110]⟩), .v (.string ⟨#[]⟩), .v (.string ⟨#[116]⟩), .v (.string ⟨#[]⟩), .v (.string ⟨#[116]⟩), .v (.string ⟨#[116]⟩), .v (.string ⟨#[110]⟩), .v (.string ⟨#[]⟩), .v (.string ⟨#[99]⟩)]) 15 U89 sz9 zc9 (Nat.le_of_ble_eq_true rfl) (Nat.le_of_ble_eq_true rfl) rfl (by kernel_rfl) (by kernel_rfl) (by kernel_rfl) (Nat.le_of_ble_eq_true rfl)) (by first | rfl | kernel_rfl) rfl ⟨rfl, trivial⟩ ?_
 refine wF zav rfl<| wL U3 rfl<| wG (zaG U89 sz9 qO qO (show _ = 2 from rfl)) rfl<| wG (zbv U9 rfl rfl) rfl<| wA rfl<| zab ?_
 by_cases ht : t ≠ ⟨#[]⟩
 ·rw [if_pos (show seF ⟨2, t, n, a, b⟩ by simp [seF, isT, isN, isC, *])] at hE
  subst hE
  refine zaa<| zaa<| tx<| wF zaD rfl<| wL U9 rfl<| wP (zay (c := true) (by simp [ht])) rfl ?_
  refine wM rfl<| wM rfl<| wP (zay (s := ⟨#[110]⟩) (c := true) qD) rfl<| wP zao rfl<| wM rfl<| wS rfl<| wS rfl<| wS rfl<| wS rfl<| wS rfl<| wS rfl<| wS rfl<| wP zao rfl<| wM rfl<| wS rfl<| wS rfl<| wS rfl<| wS rfl<| wS rfl<| wS rfl<| wS rfl<| wS rfl<| wP zao rfl<| zab ?_
  refine zaf<| zax rfl<| zaa<| tx<| wA rfl<| zab<| zai<| zau<| yT ?_ ?_
  ·exact rfl
  ·exact trivial
 replace ht : t = ⟨#[]⟩ := Decidable.not_not.1 ht
 by_cases hn : n ≠ 0
 ·by_cases hq : a = 0 ∧ b = 0
  ·refine zaa<| zaa<| tx<| wF zaD rfl<| wL U9 rfl<| wP (zay (c := false) (by simp [ht])) rfl ?_
   refine wM rfl<| wS rfl<| wS rfl<| wP zaj rfl<| wM rfl<| wF zaM rfl<| wL U3 rfl<| wP (zaT (c := true) (by simpa using hn)) rfl ?_
   refine wM rfl<| wM rfl<| wP (zay (s := ⟨#[110]⟩) (c := false) qD) rfl<| wP zao rfl<| wP zaj rfl<| wM rfl<| wF za2 rfl<| wN U27 sz27 rfl ?_
   refine wP (zaQ pl27 zr27 rfl rfl) rfl<| wP (zaP U27 rfl rfl (by kernel_rfl) (by kernel_rfl) (by kernel_rfl) (c := false) (by rw [zbs]; simp [hq])) rfl ?_
   refine wM rfl<| wS rfl<| wS rfl<| wP zaj rfl<| wP zaj rfl<| zab<| zaf<| zag rfl ?_
   rw [if_neg (show ¬ seF ⟨2, t, n, a, b⟩ by simp [seF, isT, isN, isC, *])] at hE
   rw [seV_2] at hE
   by_cases hl : n < 0
   ·rw [if_pos (.inl hl)] at hE
    subst hE
    refine zae<| zaa<| zak<| zaa<| tx<| wM rfl<| wP (zaE (s := ⟨#[110]⟩) (c := true) qD) rfl<| wM rfl<| wF zaM rfl<| wL U3 rfl<| wP (zbc (c := true) (by simpa using hl)) rfl ?_
    refine wM rfl<| wS rfl<| wS rfl<| wS rfl<| wP zao rfl<| wP zao rfl<| wA rfl<| zab<| zaf<| zax rfl<| zaa<| tx<| wA rfl<| zab<| zai<| zaU<| zau<| yT ?_ ?_
    ·exact rfl
    ·exact trivial
   refine zae<| zaa<| zak<| zaa<| tx<| wM rfl<| wP (zaE (s := ⟨#[110]⟩) (c := true) qD) rfl<| wM rfl<| wF zaM rfl<| wL U3 rfl<| wP (zbc (c := false) (by simp; omega)) rfl ?_
   refine wM rfl<| wF zaM rfl<| wL U3 rfl<| wP zbA rfl<| wP zaj rfl<| wP zao rfl<| wA rfl<| zab<| zaf<| zaq _ rfl (fun h => ?_) (fun h => ?_)
   ·have h1 : 65535 < n := by simpa using h
    rw [if_pos (.inr h1)] at hE
    subst hE
    refine zaa<| tx<| wA rfl<| zab<| zai<| zaU<| zau<| yT ?_ ?_
    ·exact rfl
    ·exact trivial
   have h1 : ¬ 65535 < n := by simpa using h
   clear h
   rw [if_neg (by omega)] at hE
   subst hE
   refine zaa<| tx<| wM rfl<| wP (zaE (s := ⟨#[110]⟩) (c := false) qD) rfl<| wA rfl<| zab<| zaf<| zag rfl<| zaa<| tx<| wF zav rfl<| wL U3 rfl<| wP zaz rfl<| wA rfl<| zab<| zaf<| zag rfl<| zaa<| tx<| wF zav rfl<| wL U3 rfl<| wP zaz rfl<| wM rfl<| wS rfl ?_
   refine wS rfl<| wS rfl<| wP zaj rfl<| wA rfl<| zab<| zaf<| zag rfl<| zaa<| zaB 4 qK<| wF zav rfl<| wL U3 rfl<| wP zaz rfl<| wM rfl<| wS rfl<| wS rfl<| wS rfl<| wS rfl<| wP zaj rfl<| wA rfl<| zab ⟨qK, ?_⟩
   refine zaf<| zag rfl<| zaa<| tx<| wM rfl<| wP (zaE (s := ⟨#[110]⟩) (c := false) qD) rfl<| wA rfl<| zab<| zaf<| zag rfl<| zae<| zaa<| tx<| wA rfl<| zab<| zai<| yT ?_ ?_
   ·exact rfl
   ·exact trivial
  ·rw [if_pos (show seF ⟨2, t, n, a, b⟩ by simp [seF, isT, isN, isC]; omega)] at hE
   subst hE
   refine zaa<| zaa<| tx<| wF zaD rfl<| wL U9 rfl<| wP (zay (c := false) (by simp [ht])) rfl ?_
   refine wM rfl<| wS rfl<| wS rfl<| wP zaj rfl<| wM rfl<| wF zaM rfl<| wL U3 rfl<| wP (zaT (c := true) (by simpa using hn)) rfl ?_
   refine wM rfl<| wM rfl<| wP (zay (s := ⟨#[110]⟩) (c := false) qD) rfl<| wP zao rfl<| wP zaj rfl<| wM rfl<| wF za2 rfl<| wN U27 sz27 rfl ?_
   refine wP (zaQ pl27 zr27 rfl rfl) rfl<| wP (zaP U27 rfl rfl (by kernel_rfl) (by kernel_rfl) (by kernel_rfl) (c := true) (by rw [zbs]; simp; omega)) rfl ?_
   refine wM rfl<| wM rfl<| wP (zay (s := ⟨#[110]⟩) (c := true) qD) rfl<| wP zao rfl<| wP zaj rfl<| zab<| zaf<| zax rfl<| zaa<| tx<| wA rfl<| zab<| zai<| zau<| yT ?_ ?_
   ·exact rfl
   ·exact trivial
 replace hn : n = 0 := Decidable.not_not.1 hn
 by_cases hq : a = 0 ∧ b = 0
 ·refine zaa<| zaa<| tx<| wF zaD rfl<| wL U9 rfl<| wP (zay (c := false) (by simp [ht])) rfl ?_
  refine wM rfl<| wS rfl<| wS rfl<| wP zaj rfl<| wM rfl<| wF zaM rfl<| wL U3 rfl<| wP (zaT (c := false) (by simp [hn])) rfl ?_
  refine wM rfl<| wS rfl<| wS rfl<| wP zaj rfl<| wP zaj rfl<| wM rfl<| wF za2 rfl<| wN U27 sz27 rfl ?_
  refine wP (zaQ pl27 zr27 rfl rfl) rfl<| wP (zaP U27 rfl rfl (by kernel_rfl) (by kernel_rfl) (by kernel_rfl) (c := false) (by rw [zbs]; simp [hq])) rfl ?_
  refine wM rfl<| wS rfl<| wS rfl<| wP zaj rfl<| wP zaj rfl<| zab<| zaf<| zag rfl ?_
  rw [if_neg (show ¬ seF ⟨2, t, n, a, b⟩ by simp [seF, isT, isN, isC, *])] at hE
  rw [seV_2] at hE
  by_cases hl : n < 0
  ·rw [if_pos (.inl hl)] at hE
   subst hE
   refine zae<| zaa<| zak<| zaa<| tx<| wM rfl<| wP (zaE (s := ⟨#[110]⟩) (c := true) qD) rfl<| wM rfl<| wF zaM rfl<| wL U3 rfl<| wP (zbc (c := true) (by simpa using hl)) rfl ?_
   refine wM rfl<| wS rfl<| wS rfl<| wS rfl<| wP zao rfl<| wP zao rfl<| wA rfl<| zab<| zaf<| zax rfl<| zaa<| tx<| wA rfl<| zab<| zai<| zaU<| zau<| yT ?_ ?_
   ·exact rfl
   ·exact trivial
  refine zae<| zaa<| zak<| zaa<| tx<| wM rfl<| wP (zaE (s := ⟨#[110]⟩) (c := true) qD) rfl<| wM rfl<| wF zaM rfl<| wL U3 rfl<| wP (zbc (c := false) (by simp; omega)) rfl ?_
  refine wM rfl<| wF zaM rfl<| wL U3 rfl<| wP zbA rfl<| wP zaj rfl<| wP zao rfl<| wA rfl<| zab<| zaf<| zaq _ rfl (fun h => ?_) (fun h => ?_)
  ·have h1 : 65535 < n := by simpa using h
   rw [if_pos (.inr h1)] at hE
   subst hE
   refine zaa<| tx<| wA rfl<| zab<| zai<| zaU<| zau<| yT ?_ ?_
   ·exact rfl
   ·exact trivial
  have h1 : ¬ 65535 < n := by simpa using h
  clear h
  rw [if_neg (by omega)] at hE
  subst hE
  refine zaa<| tx<| wM rfl<| wP (zaE (s := ⟨#[110]⟩) (c := false) qD) rfl<| wA rfl<| zab<| zaf<| zag rfl<| zaa<| tx<| wF zav rfl<| wL U3 rfl<| wP zaz rfl<| wA rfl<| zab<| zaf<| zag rfl<| zaa<| tx<| wF zav rfl<| wL U3 rfl<| wP zaz rfl<| wM rfl<| wS rfl ?_
  refine wS rfl<| wS rfl<| wP zaj rfl<| wA rfl<| zab<| zaf<| zag rfl<| zaa<| zaB 4 qK<| wF zav rfl<| wL U3 rfl<| wP zaz rfl<| wM rfl<| wS rfl<| wS rfl<| wS rfl<| wS rfl<| wP zaj rfl<| wA rfl<| zab ⟨qK, ?_⟩
  refine zaf<| zag rfl<| zaa<| tx<| wM rfl<| wP (zaE (s := ⟨#[110]⟩) (c := false) qD) rfl<| wA rfl<| zab<| zaf<| zag rfl<| zae<| zaa<| tx<| wA rfl<| zab<| zai<| yT ?_ ?_
  ·exact rfl
  ·exact trivial
 ·rw [if_pos (show seF ⟨2, t, n, a, b⟩ by simp [seF, isT, isN, isC]; omega)] at hE
  subst hE
  refine zaa<| zaa<| tx<| wF zaD rfl<| wL U9 rfl<| wP (zay (c := false) (by simp [ht])) rfl ?_
  refine wM rfl<| wS rfl<| wS rfl<| wP zaj rfl<| wM rfl<| wF zaM rfl<| wL U3 rfl<| wP (zaT (c := false) (by simp [hn])) rfl ?_
  refine wM rfl<| wS rfl<| wS rfl<| wP zaj rfl<| wP zaj rfl<| wM rfl<| wF za2 rfl<| wN U27 sz27 rfl ?_
  refine wP (zaQ pl27 zr27 rfl rfl) rfl<| wP (zaP U27 rfl rfl (by kernel_rfl) (by kernel_rfl) (by kernel_rfl) (c := true) (by rw [zbs]; simp; omega)) rfl ?_
  refine wM rfl<| wM rfl<| wP (zay (s := ⟨#[110]⟩) (c := true) qD) rfl<| wP zao rfl<| wP zaj rfl<| zab<| zaf<| zax rfl<| zaa<| tx<| wA rfl<| zab<| zai<| zau<| yT ?_ ?_
  ·exact rfl
  ·exact trivial
set_option maxHeartbeats 2000000 in
theorem refCheck3_s (t : ByteArray) (n a b : Int) (ok : SE.OK ⟨3, t, n, a, b⟩) : Fn prog 25 [.agg (SE.cells ⟨3, t, n, a, b⟩)] (.p (.v (.int .i64 (seE ⟨3, t, n, a, b⟩)))) [] := by
 obtain ⟨hz, hn0, hn1, ha0, ha1⟩ := ok
 dsimp only at hz hn0 hn1 ha0 ha1
 obtain ⟨E, hE⟩ : ∃ E, seE ⟨3, t, n, a, b⟩ = E := ⟨_, rfl⟩
 rw [hE]
 unfold seE at hE
 rw [if_neg (by dsimp only; decide)] at hE
 show Fn prog _ [.agg [.p (.v (.int .i64 3)), .p (.v (.string t)), .p (.v (.int .i64 n)), .p (.v (.int .u32 a)), .p (.v (.int .i64 b))]] _ _
 refine zaw F25 rfl (qE rfl) fun w0 A => zaa<| tx<| wG (zaK (X := .agg _) 1 rfl) rfl<| wA rfl<| zab<| zaa<| zaa<| tx<| wF zav rfl<| wL U3 rfl<| wP za8 rfl<| wM rfl<| wF zav rfl<| wL U3 rfl<| wP zbA rfl<| wP zaj rfl<| zab<| zaf<| zag rfl<| zae<| zaa<| tx<| zah (xs := [.p (.v (.string ⟨#[]⟩)), .p (.v (.string ⟨#[116]⟩)), .p (.v (.string ⟨#[110]⟩)), .p (.v (.string ⟨#[]⟩)), .p (.v (.string ⟨#[116]⟩)), .p (.v (.string ⟨#[]⟩)), .p (.v (.string ⟨#[116]⟩)), .p (.v (.string ⟨#[116]⟩)), .p (.v (.string ⟨#[110]⟩)), .p (.v (.string ⟨#[]⟩)), .p (.v (.string ⟨#[99]⟩))]) (zaO (es := [.p (.v (.string ⟨#[]⟩)), .p (.v (.string ⟨#[116]⟩)), .p (.v (.string ⟨#[110]⟩)), .p (.v (.string ⟨#[]⟩)), .p (.v (.string ⟨#[116]⟩)), .p (.v (.string ⟨#[]⟩)), .p (.v (.string ⟨#[116]⟩)), .p (.v (.string ⟨#[116]⟩)), .p (.v (.string ⟨#[110]⟩)), .p (.v (.string ⟨#[]⟩)), .p (.v (.string ⟨#[99]⟩))]) (cs := [.v (.string ⟨#[]⟩), .v (.string ⟨#[116]⟩), .v (.string ⟨#[110]⟩), .v (.string ⟨#[]⟩), .v (.string ⟨#[116]⟩), .v (.string ⟨#[]⟩), .v (.string ⟨#[116]⟩), .v (.string ⟨#[116]⟩), .v (.string ⟨#[110]⟩), .v (.string ⟨#[]⟩), .v (.string ⟨#[99]⟩)]) 15 U89 sz9 zc9 (Nat.le_of_ble_eq_true rfl) (Nat.le_of_ble_eq_true rfl) rfl (by kernel_rfl) (by kernel_rfl) (by kernel_rfl) (Nat.le_of_ble_eq_true rfl)) (by first | rfl | kernel_rfl) rfl ⟨rfl, trivial⟩ ?_
 refine wF zav rfl<| wL U3 rfl<| wG (zaG U89 sz9 qO qO (show _ = 3 from rfl)) rfl<| wG (zbv U9 rfl rfl) rfl<| wA rfl<| zab ?_
 by_cases ht : t ≠ ⟨#[]⟩
 ·rw [if_pos (show seF ⟨3, t, n, a, b⟩ by simp [seF, isT, isN, isC, *])] at hE
  subst hE
  refine zaa<| zaa<| tx<| wF zaD rfl<| wL U9 rfl<| wP (zay (c := true) (by simp [ht])) rfl ?_
  refine wM rfl<| wM rfl<| wP (zay (s := ⟨#[]⟩) (c := true) qD) rfl<| wP zao rfl<| wM rfl<| wS rfl<| wS rfl<| wS rfl<| wS rfl<| wS rfl<| wS rfl<| wS rfl<| wP zao rfl<| wM rfl<| wS rfl<| wS rfl<| wS rfl<| wS rfl<| wS rfl<| wS rfl<| wS rfl<| wS rfl<| wP zao rfl<| zab ?_
  refine zaf<| zax rfl<| zaa<| tx<| wA rfl<| zab<| zai<| zau<| yT ?_ ?_
  ·exact rfl
  ·exact trivial
 replace ht : t = ⟨#[]⟩ := Decidable.not_not.1 ht
 by_cases hn : n ≠ 0
 ·rw [if_pos (show seF ⟨3, t, n, a, b⟩ by simp [seF, isT, isN, isC, *])] at hE
  subst hE
  refine zaa<| zaa<| tx<| wF zaD rfl<| wL U9 rfl<| wP (zay (c := false) (by simp [ht])) rfl ?_
  refine wM rfl<| wS rfl<| wS rfl<| wP zaj rfl<| wM rfl<| wF zaM rfl<| wL U3 rfl<| wP (zaT (c := true) (by simpa using hn)) rfl ?_
  refine wM rfl<| wM rfl<| wP (zay (s := ⟨#[]⟩) (c := true) qD) rfl<| wP zao rfl<| wP zaj rfl<| wM rfl<| wS rfl<| wS rfl<| wS rfl<| wS rfl<| wS rfl<| wS rfl<| wS rfl<| wS rfl<| wP zao rfl<| zab<| zaf<| zax rfl<| zaa<| tx<| wA rfl<| zab<| zai<| zau ?_
  refine yT ?_ ?_
  ·exact rfl
  ·exact trivial
 replace hn : n = 0 := Decidable.not_not.1 hn
 by_cases hq : a = 0 ∧ b = 0
 ·refine zaa<| zaa<| tx<| wF zaD rfl<| wL U9 rfl<| wP (zay (c := false) (by simp [ht])) rfl ?_
  refine wM rfl<| wS rfl<| wS rfl<| wP zaj rfl<| wM rfl<| wF zaM rfl<| wL U3 rfl<| wP (zaT (c := false) (by simp [hn])) rfl ?_
  refine wM rfl<| wS rfl<| wS rfl<| wP zaj rfl<| wP zaj rfl<| wM rfl<| wF za2 rfl<| wN U27 sz27 rfl ?_
  refine wP (zaQ pl27 zr27 rfl rfl) rfl<| wP (zaP U27 rfl rfl (by kernel_rfl) (by kernel_rfl) (by kernel_rfl) (c := false) (by rw [zbs]; simp [hq])) rfl ?_
  refine wM rfl<| wS rfl<| wS rfl<| wP zaj rfl<| wP zaj rfl<| zab<| zaf<| zag rfl ?_
  rw [if_neg (show ¬ seF ⟨3, t, n, a, b⟩ by simp [seF, isT, isN, isC, *])] at hE
  rw [seV_3] at hE
  refine zae<| zaa<| zak<| zaa<| tx<| wM rfl<| wP (zaE (s := ⟨#[]⟩) (c := false) qD) rfl<| wM rfl<| wS rfl<| wS rfl<| wS rfl<| wS rfl<| wS rfl<| wS rfl<| wS rfl<| wS rfl<| wP zaj rfl<| wA rfl<| zab<| zaf<| zag rfl<| zaa<| tx<| wM rfl ?_
  refine wP (zaE (s := ⟨#[]⟩) (c := false) qD) rfl<| wA rfl<| zab<| zaf<| zag rfl<| zaa<| tx<| wF zav rfl<| wL U3 rfl<| wP zaz rfl<| wA rfl<| zab<| zaf<| zag rfl<| zaa<| tx<| wF zav rfl<| wL U3 rfl<| wP zaz rfl<| wM rfl<| wS rfl<| wS rfl<| wS rfl<| wP zaj rfl ?_
  refine wA rfl<| zab<| zaf<| zag rfl<| zaa<| zaB 4 qK<| wF zav rfl<| wL U3 rfl<| wP zaz rfl<| wM rfl<| wS rfl<| wS rfl<| wS rfl<| wS rfl<| wP zaj rfl<| wA rfl<| zab ⟨qK, ?_⟩
  refine zaf<| zag rfl ?_
  subst hE
  refine zaa<| tx<| wM rfl<| wP (zaE (s := ⟨#[]⟩) (c := false) qD) rfl<| wA rfl<| zab<| zaf<| zag rfl<| zae<| zaa<| tx<| wA rfl<| zab<| zai<| yT ?_ ?_
  ·exact rfl
  ·exact trivial
 ·rw [if_pos (show seF ⟨3, t, n, a, b⟩ by simp [seF, isT, isN, isC]; omega)] at hE
  subst hE
  refine zaa<| zaa<| tx<| wF zaD rfl<| wL U9 rfl<| wP (zay (c := false) (by simp [ht])) rfl ?_
  refine wM rfl<| wS rfl<| wS rfl<| wP zaj rfl<| wM rfl<| wF zaM rfl<| wL U3 rfl<| wP (zaT (c := false) (by simp [hn])) rfl ?_
  refine wM rfl<| wS rfl<| wS rfl<| wP zaj rfl<| wP zaj rfl<| wM rfl<| wF za2 rfl<| wN U27 sz27 rfl ?_
  refine wP (zaQ pl27 zr27 rfl rfl) rfl<| wP (zaP U27 rfl rfl (by kernel_rfl) (by kernel_rfl) (by kernel_rfl) (c := true) (by rw [zbs]; simp; omega)) rfl ?_
  refine wM rfl<| wM rfl<| wP (zay (s := ⟨#[]⟩) (c := true) qD) rfl<| wP zao rfl<| wP zaj rfl<| zab<| zaf<| zax rfl<| zaa<| tx<| wA rfl<| zab<| zai<| zau<| yT ?_ ?_
  ·exact rfl
  ·exact trivial
set_option maxHeartbeats 2000000 in
theorem refCheck4_s (t : ByteArray) (n a b : Int) (ok : SE.OK ⟨4, t, n, a, b⟩) : Fn prog 25 [.agg (SE.cells ⟨4, t, n, a, b⟩)] (.p (.v (.int .i64 (seE ⟨4, t, n, a, b⟩)))) [] := by
 obtain ⟨hz, hn0, hn1, ha0, ha1⟩ := ok
 dsimp only at hz hn0 hn1 ha0 ha1
 obtain ⟨E, hE⟩ : ∃ E, seE ⟨4, t, n, a, b⟩ = E := ⟨_, rfl⟩
 rw [hE]
 unfold seE at hE
 rw [if_neg (by dsimp only; decide)] at hE
 show Fn prog _ [.agg [.p (.v (.int .i64 4)), .p (.v (.string t)), .p (.v (.int .i64 n)), .p (.v (.int .u32 a)), .p (.v (.int .i64 b))]] _ _
 have hH := zcF t
 refine zaw F25 rfl (qE rfl) fun w0 A => zaa<| tx<| wG (zaK (X := .agg _) 1 rfl) rfl<| wA rfl<| zab<| zaa<| zaa<| tx<| wF zav rfl<| wL U3 rfl<| wP za8 rfl<| wM rfl<| wF zav rfl<| wL U3 rfl<| wP zbA rfl<| wP zaj rfl<| zab<| zaf<| zag rfl<| zae<| zaa<| tx<| zah (xs := [.p (.v (.string ⟨#[]⟩)), .p (.v (.string ⟨#[116]⟩)), .p (.v (.string ⟨#[110]⟩)), .p (.v (.string ⟨#[]⟩)), .p (.v (.string ⟨#[116]⟩)), .p (.v (.string ⟨#[]⟩)), .p (.v (.string ⟨#[116]⟩)), .p (.v (.string ⟨#[116]⟩)), .p (.v (.string ⟨#[110]⟩)), .p (.v (.string ⟨#[]⟩)), .p (.v (.string ⟨#[99]⟩))]) (zaO (es := [.p (.v (.string ⟨#[]⟩)), .p (.v (.string ⟨#[116]⟩)), .p (.v (.string ⟨#[110]⟩)), .p (.v (.string ⟨#[]⟩)), .p (.v (.string ⟨#[116]⟩)), .p (.v (.string ⟨#[]⟩)), .p (.v (.string ⟨#[116]⟩)), .p (.v (.string ⟨#[116]⟩)), .p (.v (.string ⟨#[110]⟩)), .p (.v (.string ⟨#[]⟩)), .p (.v (.string ⟨#[99]⟩))]) (cs := [.v (.string ⟨#[]⟩), .v (.string ⟨#[116]⟩), .v (.string ⟨#[110]⟩), .v (.string ⟨#[]⟩), .v (.string ⟨#[116]⟩), .v (.string ⟨#[]⟩), .v (.string ⟨#[116]⟩), .v (.string ⟨#[116]⟩), .v (.string ⟨#[110]⟩), .v (.string ⟨#[]⟩), .v (.string ⟨#[99]⟩)]) 15 U89 sz9 zc9 (Nat.le_of_ble_eq_true rfl) (Nat.le_of_ble_eq_true rfl) rfl (by kernel_rfl) (by kernel_rfl) (by kernel_rfl) (Nat.le_of_ble_eq_true rfl)) (by first | rfl | kernel_rfl) rfl ⟨rfl, trivial⟩ ?_
 refine wF zav rfl<| wL U3 rfl<| wG (zaG U89 sz9 qO qO (show _ = 4 from rfl)) rfl<| wG (zbv U9 rfl rfl) rfl<| wA rfl<| zab ?_
 by_cases ht : t ≠ ⟨#[]⟩
 ·by_cases hn : n ≠ 0
  ·rw [if_pos (show seF ⟨4, t, n, a, b⟩ by simp [seF, isT, isN, isC, *])] at hE
   subst hE
   refine zaa<| zaa<| tx<| wF zaD rfl<| wL U9 rfl<| wP (zay (c := true) (by simp [ht])) rfl ?_
   refine wM rfl<| wM rfl<| wP (zay (s := ⟨#[116]⟩) (c := false) qD) rfl<| wP zao rfl<| wM rfl<| wF zaM rfl<| wL U3 rfl<| wP (zaT (c := true) (by simpa using hn)) rfl ?_
   refine wM rfl<| wM rfl<| wP (zay (s := ⟨#[116]⟩) (c := true) qD) rfl<| wP zao rfl<| wP zaj rfl<| wM rfl<| wS rfl<| wS rfl<| wS rfl<| wS rfl<| wS rfl<| wS rfl<| wS rfl<| wS rfl<| wP zao rfl<| zab<| zaf<| zax rfl<| zaa<| tx<| wA rfl<| zab<| zai<| zau ?_
   refine yT ?_ ?_
   ·exact rfl
   ·exact trivial
  replace hn : n = 0 := Decidable.not_not.1 hn
  by_cases hq : a = 0 ∧ b = 0
  ·refine zaa<| zaa<| tx<| wF zaD rfl<| wL U9 rfl<| wP (zay (c := true) (by simp [ht])) rfl ?_
   refine wM rfl<| wM rfl<| wP (zay (s := ⟨#[116]⟩) (c := false) qD) rfl<| wP zao rfl<| wM rfl<| wF zaM rfl<| wL U3 rfl<| wP (zaT (c := false) (by simp [hn])) rfl ?_
   refine wM rfl<| wS rfl<| wS rfl<| wP zaj rfl<| wP zaj rfl<| wM rfl<| wF za2 rfl<| wN U27 sz27 rfl ?_
   refine wP (zaQ pl27 zr27 rfl rfl) rfl<| wP (zaP U27 rfl rfl (by kernel_rfl) (by kernel_rfl) (by kernel_rfl) (c := false) (by rw [zbs]; simp [hq])) rfl ?_
   refine wM rfl<| wS rfl<| wS rfl<| wP zaj rfl<| wP zaj rfl<| zab<| zaf<| zag rfl ?_
   rw [if_neg (show ¬ seF ⟨4, t, n, a, b⟩ by simp [seF, isT, isN, isC, *])] at hE
   rw [seV_4] at hE
   refine zae<| zaa<| zak<| zaa<| tx<| wM rfl<| wP (zaE (s := ⟨#[116]⟩) (c := false) qD) rfl<| wM rfl<| wS rfl<| wS rfl<| wS rfl<| wS rfl<| wS rfl<| wS rfl<| wS rfl<| wS rfl<| wP zaj rfl<| wA rfl<| zab<| zaf<| zag rfl<| zaa<| tx<| wM rfl ?_
   refine wP (zaE (s := ⟨#[116]⟩) (c := false) qD) rfl<| wA rfl<| zab<| zaf<| zag rfl<| zaa<| tx<| wF zav rfl<| wL U3 rfl<| wP zaz rfl<| wA rfl<| zab<| zaf<| zag rfl<| zaa<| tx<| wF zav rfl<| wL U3 rfl<| wP zaz rfl<| wM rfl<| wS rfl<| wS rfl<| wS rfl<| wP zaj rfl ?_
   refine wA rfl<| zab<| zaf<| zag rfl<| zaa<| zaB 4 qK<| wF zav rfl<| wL U3 rfl<| wP zaz rfl<| wM rfl<| wS rfl<| wS rfl<| wS rfl<| wS rfl<| wP zaj rfl<| wA rfl<| zab ⟨qK, ?_⟩
   refine zaf<| zag rfl ?_
   subst hE
   refine zaa<| tx<| wM rfl<| wP (zaE (s := ⟨#[116]⟩) (c := true) qD) rfl<| wA rfl<| zab<| zaf<| zax rfl<| zaa<| tx<| wF zaD rfl<| wL U9 rfl<| yV (fun n => 101 + 1000 * n) (hH) F55 ?_
   refine wA rfl<| zab<| zai<| zaU<| zau<| yT ?_ ?_
   ·exact rfl
   ·exact trivial
  ·rw [if_pos (show seF ⟨4, t, n, a, b⟩ by simp [seF, isT, isN, isC]; omega)] at hE
   subst hE
   refine zaa<| zaa<| tx<| wF zaD rfl<| wL U9 rfl<| wP (zay (c := true) (by simp [ht])) rfl ?_
   refine wM rfl<| wM rfl<| wP (zay (s := ⟨#[116]⟩) (c := false) qD) rfl<| wP zao rfl<| wM rfl<| wF zaM rfl<| wL U3 rfl<| wP (zaT (c := false) (by simp [hn])) rfl ?_
   refine wM rfl<| wS rfl<| wS rfl<| wP zaj rfl<| wP zaj rfl<| wM rfl<| wF za2 rfl<| wN U27 sz27 rfl ?_
   refine wP (zaQ pl27 zr27 rfl rfl) rfl<| wP (zaP U27 rfl rfl (by kernel_rfl) (by kernel_rfl) (by kernel_rfl) (c := true) (by rw [zbs]; simp; omega)) rfl ?_
   refine wM rfl<| wM rfl<| wP (zay (s := ⟨#[116]⟩) (c := true) qD) rfl<| wP zao rfl<| wP zaj rfl<| zab<| zaf<| zax rfl<| zaa<| tx<| wA rfl<| zab<| zai<| zau<| yT ?_ ?_
   ·exact rfl
   ·exact trivial
 replace ht : t = ⟨#[]⟩ := Decidable.not_not.1 ht
 by_cases hn : n ≠ 0
 ·rw [if_pos (show seF ⟨4, t, n, a, b⟩ by simp [seF, isT, isN, isC, *])] at hE
  subst hE
  refine zaa<| zaa<| tx<| wF zaD rfl<| wL U9 rfl<| wP (zay (c := false) (by simp [ht])) rfl ?_
  refine wM rfl<| wS rfl<| wS rfl<| wP zaj rfl<| wM rfl<| wF zaM rfl<| wL U3 rfl<| wP (zaT (c := true) (by simpa using hn)) rfl ?_
  refine wM rfl<| wM rfl<| wP (zay (s := ⟨#[116]⟩) (c := true) qD) rfl<| wP zao rfl<| wP zaj rfl<| wM rfl<| wS rfl<| wS rfl<| wS rfl<| wS rfl<| wS rfl<| wS rfl<| wS rfl<| wS rfl<| wP zao rfl<| zab<| zaf<| zax rfl<| zaa<| tx<| wA rfl<| zab<| zai<| zau ?_
  refine yT ?_ ?_
  ·exact rfl
  ·exact trivial
 replace hn : n = 0 := Decidable.not_not.1 hn
 by_cases hq : a = 0 ∧ b = 0
 ·refine zaa<| zaa<| tx<| wF zaD rfl<| wL U9 rfl<| wP (zay (c := false) (by simp [ht])) rfl ?_
  refine wM rfl<| wS rfl<| wS rfl<| wP zaj rfl<| wM rfl<| wF zaM rfl<| wL U3 rfl<| wP (zaT (c := false) (by simp [hn])) rfl ?_
  refine wM rfl<| wS rfl<| wS rfl<| wP zaj rfl<| wP zaj rfl<| wM rfl<| wF za2 rfl<| wN U27 sz27 rfl ?_
  refine wP (zaQ pl27 zr27 rfl rfl) rfl<| wP (zaP U27 rfl rfl (by kernel_rfl) (by kernel_rfl) (by kernel_rfl) (c := false) (by rw [zbs]; simp [hq])) rfl ?_
  refine wM rfl<| wS rfl<| wS rfl<| wP zaj rfl<| wP zaj rfl<| zab<| zaf<| zag rfl ?_
  rw [if_neg (show ¬ seF ⟨4, t, n, a, b⟩ by simp [seF, isT, isN, isC, *])] at hE
  rw [seV_4] at hE
  refine zae<| zaa<| zak<| zaa<| tx<| wM rfl<| wP (zaE (s := ⟨#[116]⟩) (c := false) qD) rfl<| wM rfl<| wS rfl<| wS rfl<| wS rfl<| wS rfl<| wS rfl<| wS rfl<| wS rfl<| wS rfl<| wP zaj rfl<| wA rfl<| zab<| zaf<| zag rfl<| zaa<| tx<| wM rfl ?_
  refine wP (zaE (s := ⟨#[116]⟩) (c := false) qD) rfl<| wA rfl<| zab<| zaf<| zag rfl<| zaa<| tx<| wF zav rfl<| wL U3 rfl<| wP zaz rfl<| wA rfl<| zab<| zaf<| zag rfl<| zaa<| tx<| wF zav rfl<| wL U3 rfl<| wP zaz rfl<| wM rfl<| wS rfl<| wS rfl<| wS rfl<| wP zaj rfl ?_
  refine wA rfl<| zab<| zaf<| zag rfl<| zaa<| zaB 4 qK<| wF zav rfl<| wL U3 rfl<| wP zaz rfl<| wM rfl<| wS rfl<| wS rfl<| wS rfl<| wS rfl<| wP zaj rfl<| wA rfl<| zab ⟨qK, ?_⟩
  refine zaf<| zag rfl ?_
  subst hE
  refine zaa<| tx<| wM rfl<| wP (zaE (s := ⟨#[116]⟩) (c := true) qD) rfl<| wA rfl<| zab<| zaf<| zax rfl<| zaa<| tx<| wF zaD rfl<| wL U9 rfl<| yV (fun n => 101 + 1000 * n) (hH) F55 ?_
  refine wA rfl<| zab<| zai<| zaU<| zau<| yT ?_ ?_
  ·exact rfl
  ·exact trivial
 ·rw [if_pos (show seF ⟨4, t, n, a, b⟩ by simp [seF, isT, isN, isC]; omega)] at hE
  subst hE
  refine zaa<| zaa<| tx<| wF zaD rfl<| wL U9 rfl<| wP (zay (c := false) (by simp [ht])) rfl ?_
  refine wM rfl<| wS rfl<| wS rfl<| wP zaj rfl<| wM rfl<| wF zaM rfl<| wL U3 rfl<| wP (zaT (c := false) (by simp [hn])) rfl ?_
  refine wM rfl<| wS rfl<| wS rfl<| wP zaj rfl<| wP zaj rfl<| wM rfl<| wF za2 rfl<| wN U27 sz27 rfl ?_
  refine wP (zaQ pl27 zr27 rfl rfl) rfl<| wP (zaP U27 rfl rfl (by kernel_rfl) (by kernel_rfl) (by kernel_rfl) (c := true) (by rw [zbs]; simp; omega)) rfl ?_
  refine wM rfl<| wM rfl<| wP (zay (s := ⟨#[116]⟩) (c := true) qD) rfl<| wP zao rfl<| wP zaj rfl<| zab<| zaf<| zax rfl<| zaa<| tx<| wA rfl<| zab<| zai<| zau<| yT ?_ ?_
  ·exact rfl
  ·exact trivial
set_option maxHeartbeats 2000000 in
theorem refCheck5_s (t : ByteArray) (n a b : Int) (ok : SE.OK ⟨5, t, n, a, b⟩) : Fn prog 25 [.agg (SE.cells ⟨5, t, n, a, b⟩)] (.p (.v (.int .i64 (seE ⟨5, t, n, a, b⟩)))) [] := by
 obtain ⟨hz, hn0, hn1, ha0, ha1⟩ := ok
 dsimp only at hz hn0 hn1 ha0 ha1
 obtain ⟨E, hE⟩ : ∃ E, seE ⟨5, t, n, a, b⟩ = E := ⟨_, rfl⟩
 rw [hE]
 unfold seE at hE
 rw [if_neg (by dsimp only; decide)] at hE
 show Fn prog _ [.agg [.p (.v (.int .i64 5)), .p (.v (.string t)), .p (.v (.int .i64 n)), .p (.v (.int .u32 a)), .p (.v (.int .i64 b))]] _ _
 refine zaw F25 rfl (qE rfl) fun w0 A => zaa<| tx<| wG (zaK (X := .agg _) 1 rfl) rfl<| wA rfl<| zab<| zaa<| zaa<| tx<| wF zav rfl<| wL U3 rfl<| wP za8 rfl<| wM rfl<| wF zav rfl<| wL U3 rfl<| wP zbA rfl<| wP zaj rfl<| zab<| zaf<| zag rfl<| zae<| zaa<| tx<| zah (xs := [.p (.v (.string ⟨#[]⟩)), .p (.v (.string ⟨#[116]⟩)), .p (.v (.string ⟨#[110]⟩)), .p (.v (.string ⟨#[]⟩)), .p (.v (.string ⟨#[116]⟩)), .p (.v (.string ⟨#[]⟩)), .p (.v (.string ⟨#[116]⟩)), .p (.v (.string ⟨#[116]⟩)), .p (.v (.string ⟨#[110]⟩)), .p (.v (.string ⟨#[]⟩)), .p (.v (.string ⟨#[99]⟩))]) (zaO (es := [.p (.v (.string ⟨#[]⟩)), .p (.v (.string ⟨#[116]⟩)), .p (.v (.string ⟨#[110]⟩)), .p (.v (.string ⟨#[]⟩)), .p (.v (.string ⟨#[116]⟩)), .p (.v (.string ⟨#[]⟩)), .p (.v (.string ⟨#[116]⟩)), .p (.v (.string ⟨#[116]⟩)), .p (.v (.string ⟨#[110]⟩)), .p (.v (.string ⟨#[]⟩)), .p (.v (.string ⟨#[99]⟩))]) (cs := [.v (.string ⟨#[]⟩), .v (.string ⟨#[116]⟩), .v (.string ⟨#[110]⟩), .v (.string ⟨#[]⟩), .v (.string ⟨#[116]⟩), .v (.string ⟨#[]⟩), .v (.string ⟨#[116]⟩), .v (.string ⟨#[116]⟩), .v (.string ⟨#[110]⟩), .v (.string ⟨#[]⟩), .v (.string ⟨#[99]⟩)]) 15 U89 sz9 zc9 (Nat.le_of_ble_eq_true rfl) (Nat.le_of_ble_eq_true rfl) rfl (by kernel_rfl) (by kernel_rfl) (by kernel_rfl) (Nat.le_of_ble_eq_true rfl)) (by first | rfl | kernel_rfl) rfl ⟨rfl, trivial⟩ ?_
 refine wF zav rfl<| wL U3 rfl<| wG (zaG U89 sz9 qO qO (show _ = 5 from rfl)) rfl<| wG (zbv U9 rfl rfl) rfl<| wA rfl<| zab ?_
 by_cases ht : t ≠ ⟨#[]⟩
 ·rw [if_pos (show seF ⟨5, t, n, a, b⟩ by simp [seF, isT, isN, isC, *])] at hE
  subst hE
  refine zaa<| zaa<| tx<| wF zaD rfl<| wL U9 rfl<| wP (zay (c := true) (by simp [ht])) rfl ?_
  refine wM rfl<| wM rfl<| wP (zay (s := ⟨#[]⟩) (c := true) qD) rfl<| wP zao rfl<| wM rfl<| wS rfl<| wS rfl<| wS rfl<| wS rfl<| wS rfl<| wS rfl<| wS rfl<| wP zao rfl<| wM rfl<| wS rfl<| wS rfl<| wS rfl<| wS rfl<| wS rfl<| wS rfl<| wS rfl<| wS rfl<| wP zao rfl<| zab ?_
  refine zaf<| zax rfl<| zaa<| tx<| wA rfl<| zab<| zai<| zau<| yT ?_ ?_
  ·exact rfl
  ·exact trivial
 replace ht : t = ⟨#[]⟩ := Decidable.not_not.1 ht
 by_cases hn : n ≠ 0
 ·rw [if_pos (show seF ⟨5, t, n, a, b⟩ by simp [seF, isT, isN, isC, *])] at hE
  subst hE
  refine zaa<| zaa<| tx<| wF zaD rfl<| wL U9 rfl<| wP (zay (c := false) (by simp [ht])) rfl ?_
  refine wM rfl<| wS rfl<| wS rfl<| wP zaj rfl<| wM rfl<| wF zaM rfl<| wL U3 rfl<| wP (zaT (c := true) (by simpa using hn)) rfl ?_
  refine wM rfl<| wM rfl<| wP (zay (s := ⟨#[]⟩) (c := true) qD) rfl<| wP zao rfl<| wP zaj rfl<| wM rfl<| wS rfl<| wS rfl<| wS rfl<| wS rfl<| wS rfl<| wS rfl<| wS rfl<| wS rfl<| wP zao rfl<| zab<| zaf<| zax rfl<| zaa<| tx<| wA rfl<| zab<| zai<| zau ?_
  refine yT ?_ ?_
  ·exact rfl
  ·exact trivial
 replace hn : n = 0 := Decidable.not_not.1 hn
 by_cases hq : a = 0 ∧ b = 0
 ·refine zaa<| zaa<| tx<| wF zaD rfl<| wL U9 rfl<| wP (zay (c := false) (by simp [ht])) rfl ?_
  refine wM rfl<| wS rfl<| wS rfl<| wP zaj rfl<| wM rfl<| wF zaM rfl<| wL U3 rfl<| wP (zaT (c := false) (by simp [hn])) rfl ?_
  refine wM rfl<| wS rfl<| wS rfl<| wP zaj rfl<| wP zaj rfl<| wM rfl<| wF za2 rfl<| wN U27 sz27 rfl ?_
  refine wP (zaQ pl27 zr27 rfl rfl) rfl<| wP (zaP U27 rfl rfl (by kernel_rfl) (by kernel_rfl) (by kernel_rfl) (c := false) (by rw [zbs]; simp [hq])) rfl ?_
  refine wM rfl<| wS rfl<| wS rfl<| wP zaj rfl<| wP zaj rfl<| zab<| zaf<| zag rfl ?_
  rw [if_neg (show ¬ seF ⟨5, t, n, a, b⟩ by simp [seF, isT, isN, isC, *])] at hE
  rw [seV_5] at hE
  refine zae<| zaa<| zak<| zaa<| tx<| wM rfl<| wP (zaE (s := ⟨#[]⟩) (c := false) qD) rfl<| wM rfl<| wS rfl<| wS rfl<| wS rfl<| wS rfl<| wS rfl<| wS rfl<| wS rfl<| wS rfl<| wP zaj rfl<| wA rfl<| zab<| zaf<| zag rfl<| zaa<| tx<| wM rfl ?_
  refine wP (zaE (s := ⟨#[]⟩) (c := false) qD) rfl<| wA rfl<| zab<| zaf<| zag rfl<| zaa<| tx<| wF zav rfl<| wL U3 rfl<| wP zaz rfl<| wA rfl<| zab<| zaf<| zag rfl<| zaa<| tx<| wF zav rfl<| wL U3 rfl<| wP zaz rfl<| wM rfl<| wS rfl<| wS rfl<| wS rfl<| wP zaj rfl ?_
  refine wA rfl<| zab<| zaf<| zag rfl<| zaa<| zaB 4 qK<| wF zav rfl<| wL U3 rfl<| wP zaz rfl<| wM rfl<| wS rfl<| wS rfl<| wS rfl<| wS rfl<| wP zaj rfl<| wA rfl<| zab ⟨qK, ?_⟩
  refine zaf<| zag rfl ?_
  subst hE
  refine zaa<| tx<| wM rfl<| wP (zaE (s := ⟨#[]⟩) (c := false) qD) rfl<| wA rfl<| zab<| zaf<| zag rfl<| zae<| zaa<| tx<| wA rfl<| zab<| zai<| yT ?_ ?_
  ·exact rfl
  ·exact trivial
 ·rw [if_pos (show seF ⟨5, t, n, a, b⟩ by simp [seF, isT, isN, isC]; omega)] at hE
  subst hE
  refine zaa<| zaa<| tx<| wF zaD rfl<| wL U9 rfl<| wP (zay (c := false) (by simp [ht])) rfl ?_
  refine wM rfl<| wS rfl<| wS rfl<| wP zaj rfl<| wM rfl<| wF zaM rfl<| wL U3 rfl<| wP (zaT (c := false) (by simp [hn])) rfl ?_
  refine wM rfl<| wS rfl<| wS rfl<| wP zaj rfl<| wP zaj rfl<| wM rfl<| wF za2 rfl<| wN U27 sz27 rfl ?_
  refine wP (zaQ pl27 zr27 rfl rfl) rfl<| wP (zaP U27 rfl rfl (by kernel_rfl) (by kernel_rfl) (by kernel_rfl) (c := true) (by rw [zbs]; simp; omega)) rfl ?_
  refine wM rfl<| wM rfl<| wP (zay (s := ⟨#[]⟩) (c := true) qD) rfl<| wP zao rfl<| wP zaj rfl<| zab<| zaf<| zax rfl<| zaa<| tx<| wA rfl<| zab<| zai<| zau<| yT ?_ ?_
  ·exact rfl
  ·exact trivial
set_option maxHeartbeats 2000000 in
theorem refCheck6_s (t : ByteArray) (n a b : Int) (ok : SE.OK ⟨6, t, n, a, b⟩) : Fn prog 25 [.agg (SE.cells ⟨6, t, n, a, b⟩)] (.p (.v (.int .i64 (seE ⟨6, t, n, a, b⟩)))) [] := by
 obtain ⟨hz, hn0, hn1, ha0, ha1⟩ := ok
 dsimp only at hz hn0 hn1 ha0 ha1
 obtain ⟨E, hE⟩ : ∃ E, seE ⟨6, t, n, a, b⟩ = E := ⟨_, rfl⟩
 rw [hE]
 unfold seE at hE
 rw [if_neg (by dsimp only; decide)] at hE
 show Fn prog _ [.agg [.p (.v (.int .i64 6)), .p (.v (.string t)), .p (.v (.int .i64 n)), .p (.v (.int .u32 a)), .p (.v (.int .i64 b))]] _ _
 have hH := zcF t
 have hZ := zfX
 refine zaw F25 rfl (qE rfl) fun w0 A => zaa<| tx<| wG (zaK (X := .agg _) 1 rfl) rfl<| wA rfl<| zab<| zaa<| zaa<| tx<| wF zav rfl<| wL U3 rfl<| wP za8 rfl<| wM rfl<| wF zav rfl<| wL U3 rfl<| wP zbA rfl<| wP zaj rfl<| zab<| zaf<| zag rfl<| zae<| zaa<| tx<| zah (xs := [.p (.v (.string ⟨#[]⟩)), .p (.v (.string ⟨#[116]⟩)), .p (.v (.string ⟨#[110]⟩)), .p (.v (.string ⟨#[]⟩)), .p (.v (.string ⟨#[116]⟩)), .p (.v (.string ⟨#[]⟩)), .p (.v (.string ⟨#[116]⟩)), .p (.v (.string ⟨#[116]⟩)), .p (.v (.string ⟨#[110]⟩)), .p (.v (.string ⟨#[]⟩)), .p (.v (.string ⟨#[99]⟩))]) (zaO (es := [.p (.v (.string ⟨#[]⟩)), .p (.v (.string ⟨#[116]⟩)), .p (.v (.string ⟨#[110]⟩)), .p (.v (.string ⟨#[]⟩)), .p (.v (.string ⟨#[116]⟩)), .p (.v (.string ⟨#[]⟩)), .p (.v (.string ⟨#[116]⟩)), .p (.v (.string ⟨#[116]⟩)), .p (.v (.string ⟨#[110]⟩)), .p (.v (.string ⟨#[]⟩)), .p (.v (.string ⟨#[99]⟩))]) (cs := [.v (.string ⟨#[]⟩), .v (.string ⟨#[116]⟩), .v (.string ⟨#[110]⟩), .v (.string ⟨#[]⟩), .v (.string ⟨#[116]⟩), .v (.string ⟨#[]⟩), .v (.string ⟨#[116]⟩), .v (.string ⟨#[116]⟩), .v (.string ⟨#[110]⟩), .v (.string ⟨#[]⟩), .v (.string ⟨#[99]⟩)]) 15 U89 sz9 zc9 (Nat.le_of_ble_eq_true rfl) (Nat.le_of_ble_eq_true rfl) rfl (by kernel_rfl) (by kernel_rfl) (by kernel_rfl) (Nat.le_of_ble_eq_true rfl)) (by first | rfl | kernel_rfl) rfl ⟨rfl, trivial⟩ ?_
 refine wF zav rfl<| wL U3 rfl<| wG (zaG U89 sz9 qO qO (show _ = 6 from rfl)) rfl<| wG (zbv U9 rfl rfl) rfl<| wA rfl<| zab ?_
 by_cases ht : t ≠ ⟨#[]⟩
 ·by_cases hn : n ≠ 0
  ·rw [if_pos (show seF ⟨6, t, n, a, b⟩ by simp [seF, isT, isN, isC, *])] at hE
   subst hE
   refine zaa<| zaa<| tx<| wF zaD rfl<| wL U9 rfl<| wP (zay (c := true) (by simp [ht])) rfl ?_
   refine wM rfl<| wM rfl<| wP (zay (s := ⟨#[116]⟩) (c := false) qD) rfl<| wP zao rfl<| wM rfl<| wF zaM rfl<| wL U3 rfl<| wP (zaT (c := true) (by simpa using hn)) rfl ?_
   refine wM rfl<| wM rfl<| wP (zay (s := ⟨#[116]⟩) (c := true) qD) rfl<| wP zao rfl<| wP zaj rfl<| wM rfl<| wS rfl<| wS rfl<| wS rfl<| wS rfl<| wS rfl<| wS rfl<| wS rfl<| wS rfl<| wP zao rfl<| zab<| zaf<| zax rfl<| zaa<| tx<| wA rfl<| zab<| zai<| zau ?_
   refine yT ?_ ?_
   ·exact rfl
   ·exact trivial
  replace hn : n = 0 := Decidable.not_not.1 hn
  by_cases hq : a = 0 ∧ b = 0
  ·refine zaa<| zaa<| tx<| wF zaD rfl<| wL U9 rfl<| wP (zay (c := true) (by simp [ht])) rfl ?_
   refine wM rfl<| wM rfl<| wP (zay (s := ⟨#[116]⟩) (c := false) qD) rfl<| wP zao rfl<| wM rfl<| wF zaM rfl<| wL U3 rfl<| wP (zaT (c := false) (by simp [hn])) rfl ?_
   refine wM rfl<| wS rfl<| wS rfl<| wP zaj rfl<| wP zaj rfl<| wM rfl<| wF za2 rfl<| wN U27 sz27 rfl ?_
   refine wP (zaQ pl27 zr27 rfl rfl) rfl<| wP (zaP U27 rfl rfl (by kernel_rfl) (by kernel_rfl) (by kernel_rfl) (c := false) (by rw [zbs]; simp [hq])) rfl ?_
   refine wM rfl<| wS rfl<| wS rfl<| wP zaj rfl<| wP zaj rfl<| zab<| zaf<| zag rfl ?_
   rw [if_neg (show ¬ seF ⟨6, t, n, a, b⟩ by simp [seF, isT, isN, isC, *])] at hE
   rw [seV_6] at hE
   refine zae<| zaa<| zak<| zaa<| tx<| wM rfl<| wP (zaE (s := ⟨#[116]⟩) (c := false) qD) rfl<| wM rfl<| wS rfl<| wS rfl<| wS rfl<| wS rfl<| wS rfl<| wS rfl<| wS rfl<| wS rfl<| wP zaj rfl<| wA rfl<| zab<| zaf<| zag rfl<| zaa<| tx<| wM rfl ?_
   refine wP (zaE (s := ⟨#[116]⟩) (c := false) qD) rfl<| wA rfl<| zab<| zaf<| zag rfl<| zaa<| tx<| wF zav rfl<| wL U3 rfl<| wP zaz rfl<| wA rfl<| zab<| zaf<| zag rfl ?_
   by_cases h1 : t = ⟨#[]⟩
   ·rw [if_pos h1] at hE
    subst hE
    refine zaa<| tx<| wF zav rfl<| wL U3 rfl<| wP zaz rfl<| wM rfl<| wF zaD rfl<| wL U9 rfl<| wP (zaE (c := true) (by simp [h1])) rfl ?_
    refine wP zao rfl<| wA rfl<| zab<| zaf<| zax rfl<| zaa<| tx<| wA rfl<| zab<| zai<| zaU<| zau<| yT ?_ ?_
    ·exact rfl
    ·exact trivial
   rw [if_neg h1] at hE
   refine zaa<| tx<| wF zav rfl<| wL U3 rfl<| wP zaz rfl<| wM rfl<| wF zaD rfl<| wL U9 rfl<| wP (zaE (c := false) (by simp [h1])) rfl ?_
   refine wP zao rfl<| wA rfl<| zab<| zaf<| zag rfl ?_
   by_cases h2 : t = zeW
   ·rw [if_pos h2] at hE
    subst hE
    refine zaa<| zaB 4 qK<| wF zav rfl<| wL U3 rfl<| wP zaz rfl<| wM rfl<| wF zaD rfl<| wL U9 rfl ?_
    (first | refine wS rfl ?_ | refine cS (fun n => 93 + 1000 * n) (hZ) func59 ?_)
    refine wP (zaE (c := true) (by simp [h2])) rfl ?_
    refine wP zao rfl<| wA rfl<| zab ⟨qK, ?_⟩
    refine zaf<| zax rfl<| zaa<| tx<| wA rfl<| zab<| zai<| zaU<| zau<| yT ?_ ?_
    ·exact rfl
    ·exact trivial
   rw [if_neg h2] at hE
   refine zaa<| zaB 4 qK<| wF zav rfl<| wL U3 rfl<| wP zaz rfl<| wM rfl<| wF zaD rfl<| wL U9 rfl ?_
   (first | refine wS rfl ?_ | refine cS (fun n => 93 + 1000 * n) (hZ) func59 ?_)
   refine wP (zaE (c := false) (by simp [h2])) rfl ?_
   refine wP zao rfl<| wA rfl<| zab ⟨qK, ?_⟩
   refine zaf<| zag rfl ?_
   subst hE
   refine zaa<| tx<| wM rfl<| wP (zaE (s := ⟨#[116]⟩) (c := true) qD) rfl<| wA rfl<| zab<| zaf<| zax rfl<| zaa<| tx<| wF zaD rfl<| wL U9 rfl<| yV (fun n => 101 + 1000 * n) (hH) F55 ?_
   refine wA rfl<| zab<| zai<| zaU<| zau<| yT ?_ ?_
   ·exact rfl
   ·exact trivial
  ·rw [if_pos (show seF ⟨6, t, n, a, b⟩ by simp [seF, isT, isN, isC]; omega)] at hE
   subst hE
   refine zaa<| zaa<| tx<| wF zaD rfl<| wL U9 rfl<| wP (zay (c := true) (by simp [ht])) rfl ?_
   refine wM rfl<| wM rfl<| wP (zay (s := ⟨#[116]⟩) (c := false) qD) rfl<| wP zao rfl<| wM rfl<| wF zaM rfl<| wL U3 rfl<| wP (zaT (c := false) (by simp [hn])) rfl ?_
   refine wM rfl<| wS rfl<| wS rfl<| wP zaj rfl<| wP zaj rfl<| wM rfl<| wF za2 rfl<| wN U27 sz27 rfl ?_
   refine wP (zaQ pl27 zr27 rfl rfl) rfl<| wP (zaP U27 rfl rfl (by kernel_rfl) (by kernel_rfl) (by kernel_rfl) (c := true) (by rw [zbs]; simp; omega)) rfl ?_
   refine wM rfl<| wM rfl<| wP (zay (s := ⟨#[116]⟩) (c := true) qD) rfl<| wP zao rfl<| wP zaj rfl<| zab<| zaf<| zax rfl<| zaa<| tx<| wA rfl<| zab<| zai<| zau<| yT ?_ ?_
   ·exact rfl
   ·exact trivial
 replace ht : t = ⟨#[]⟩ := Decidable.not_not.1 ht
 by_cases hn : n ≠ 0
 ·rw [if_pos (show seF ⟨6, t, n, a, b⟩ by simp [seF, isT, isN, isC, *])] at hE
  subst hE
  refine zaa<| zaa<| tx<| wF zaD rfl<| wL U9 rfl<| wP (zay (c := false) (by simp [ht])) rfl ?_
  refine wM rfl<| wS rfl<| wS rfl<| wP zaj rfl<| wM rfl<| wF zaM rfl<| wL U3 rfl<| wP (zaT (c := true) (by simpa using hn)) rfl ?_
  refine wM rfl<| wM rfl<| wP (zay (s := ⟨#[116]⟩) (c := true) qD) rfl<| wP zao rfl<| wP zaj rfl<| wM rfl<| wS rfl<| wS rfl<| wS rfl<| wS rfl<| wS rfl<| wS rfl<| wS rfl<| wS rfl<| wP zao rfl<| zab<| zaf<| zax rfl<| zaa<| tx<| wA rfl<| zab<| zai<| zau ?_
  refine yT ?_ ?_
  ·exact rfl
  ·exact trivial
 replace hn : n = 0 := Decidable.not_not.1 hn
 by_cases hq : a = 0 ∧ b = 0
 ·refine zaa<| zaa<| tx<| wF zaD rfl<| wL U9 rfl<| wP (zay (c := false) (by simp [ht])) rfl ?_
  refine wM rfl<| wS rfl<| wS rfl<| wP zaj rfl<| wM rfl<| wF zaM rfl<| wL U3 rfl<| wP (zaT (c := false) (by simp [hn])) rfl ?_
  refine wM rfl<| wS rfl<| wS rfl<| wP zaj rfl<| wP zaj rfl<| wM rfl<| wF za2 rfl<| wN U27 sz27 rfl ?_
  refine wP (zaQ pl27 zr27 rfl rfl) rfl<| wP (zaP U27 rfl rfl (by kernel_rfl) (by kernel_rfl) (by kernel_rfl) (c := false) (by rw [zbs]; simp [hq])) rfl ?_
  refine wM rfl<| wS rfl<| wS rfl<| wP zaj rfl<| wP zaj rfl<| zab<| zaf<| zag rfl ?_
  rw [if_neg (show ¬ seF ⟨6, t, n, a, b⟩ by simp [seF, isT, isN, isC, *])] at hE
  rw [seV_6] at hE
  refine zae<| zaa<| zak<| zaa<| tx<| wM rfl<| wP (zaE (s := ⟨#[116]⟩) (c := false) qD) rfl<| wM rfl<| wS rfl<| wS rfl<| wS rfl<| wS rfl<| wS rfl<| wS rfl<| wS rfl<| wS rfl<| wP zaj rfl<| wA rfl<| zab<| zaf<| zag rfl<| zaa<| tx<| wM rfl ?_
  refine wP (zaE (s := ⟨#[116]⟩) (c := false) qD) rfl<| wA rfl<| zab<| zaf<| zag rfl<| zaa<| tx<| wF zav rfl<| wL U3 rfl<| wP zaz rfl<| wA rfl<| zab<| zaf<| zag rfl ?_
  by_cases h1 : t = ⟨#[]⟩
  ·rw [if_pos h1] at hE
   subst hE
   refine zaa<| tx<| wF zav rfl<| wL U3 rfl<| wP zaz rfl<| wM rfl<| wF zaD rfl<| wL U9 rfl<| wP (zaE (c := true) (by simp [h1])) rfl ?_
   refine wP zao rfl<| wA rfl<| zab<| zaf<| zax rfl<| zaa<| tx<| wA rfl<| zab<| zai<| zaU<| zau<| yT ?_ ?_
   ·exact rfl
   ·exact trivial
  rw [if_neg h1] at hE
  refine zaa<| tx<| wF zav rfl<| wL U3 rfl<| wP zaz rfl<| wM rfl<| wF zaD rfl<| wL U9 rfl<| wP (zaE (c := false) (by simp [h1])) rfl ?_
  refine wP zao rfl<| wA rfl<| zab<| zaf<| zag rfl ?_
  by_cases h2 : t = zeW
  ·rw [if_pos h2] at hE
   subst hE
   refine zaa<| zaB 4 qK<| wF zav rfl<| wL U3 rfl<| wP zaz rfl<| wM rfl<| wF zaD rfl<| wL U9 rfl ?_
   (first | refine wS rfl ?_ | refine cS (fun n => 93 + 1000 * n) (hZ) func59 ?_)
   refine wP (zaE (c := true) (by simp [h2])) rfl ?_
   refine wP zao rfl<| wA rfl<| zab ⟨qK, ?_⟩
   refine zaf<| zax rfl<| zaa<| tx<| wA rfl<| zab<| zai<| zaU<| zau<| yT ?_ ?_
   ·exact rfl
   ·exact trivial
  rw [if_neg h2] at hE
  refine zaa<| zaB 4 qK<| wF zav rfl<| wL U3 rfl<| wP zaz rfl<| wM rfl<| wF zaD rfl<| wL U9 rfl ?_
  (first | refine wS rfl ?_ | refine cS (fun n => 93 + 1000 * n) (hZ) func59 ?_)
  refine wP (zaE (c := false) (by simp [h2])) rfl ?_
  refine wP zao rfl<| wA rfl<| zab ⟨qK, ?_⟩
  refine zaf<| zag rfl ?_
  subst hE
  refine zaa<| tx<| wM rfl<| wP (zaE (s := ⟨#[116]⟩) (c := true) qD) rfl<| wA rfl<| zab<| zaf<| zax rfl<| zaa<| tx<| wF zaD rfl<| wL U9 rfl<| yV (fun n => 101 + 1000 * n) (hH) F55 ?_
  refine wA rfl<| zab<| zai<| zaU<| zau<| yT ?_ ?_
  ·exact rfl
  ·exact trivial
 ·rw [if_pos (show seF ⟨6, t, n, a, b⟩ by simp [seF, isT, isN, isC]; omega)] at hE
  subst hE
  refine zaa<| zaa<| tx<| wF zaD rfl<| wL U9 rfl<| wP (zay (c := false) (by simp [ht])) rfl ?_
  refine wM rfl<| wS rfl<| wS rfl<| wP zaj rfl<| wM rfl<| wF zaM rfl<| wL U3 rfl<| wP (zaT (c := false) (by simp [hn])) rfl ?_
  refine wM rfl<| wS rfl<| wS rfl<| wP zaj rfl<| wP zaj rfl<| wM rfl<| wF za2 rfl<| wN U27 sz27 rfl ?_
  refine wP (zaQ pl27 zr27 rfl rfl) rfl<| wP (zaP U27 rfl rfl (by kernel_rfl) (by kernel_rfl) (by kernel_rfl) (c := true) (by rw [zbs]; simp; omega)) rfl ?_
  refine wM rfl<| wM rfl<| wP (zay (s := ⟨#[116]⟩) (c := true) qD) rfl<| wP zao rfl<| wP zaj rfl<| zab<| zaf<| zax rfl<| zaa<| tx<| wA rfl<| zab<| zai<| zau<| yT ?_ ?_
  ·exact rfl
  ·exact trivial
set_option maxHeartbeats 2000000 in
theorem refCheck7_s (t : ByteArray) (n a b : Int) (ok : SE.OK ⟨7, t, n, a, b⟩) : Fn prog 25 [.agg (SE.cells ⟨7, t, n, a, b⟩)] (.p (.v (.int .i64 (seE ⟨7, t, n, a, b⟩)))) [] := by
 obtain ⟨hz, hn0, hn1, ha0, ha1⟩ := ok
 dsimp only at hz hn0 hn1 ha0 ha1
 obtain ⟨E, hE⟩ : ∃ E, seE ⟨7, t, n, a, b⟩ = E := ⟨_, rfl⟩
 rw [hE]
 unfold seE at hE
 rw [if_neg (by dsimp only; decide)] at hE
 show Fn prog _ [.agg [.p (.v (.int .i64 7)), .p (.v (.string t)), .p (.v (.int .i64 n)), .p (.v (.int .u32 a)), .p (.v (.int .i64 b))]] _ _
 have hEn := refEnd_s t hz
 obtain ⟨ea, eb, hen⟩ := enR_e t
 rw [hen] at hEn
 refine zaw F25 rfl (qE rfl) fun w0 A => zaa<| tx<| wG (zaK (X := .agg _) 1 rfl) rfl<| wA rfl<| zab<| zaa<| zaa<| tx<| wF zav rfl<| wL U3 rfl<| wP za8 rfl<| wM rfl<| wF zav rfl<| wL U3 rfl<| wP zbA rfl<| wP zaj rfl<| zab<| zaf<| zag rfl<| zae<| zaa<| tx<| zah (xs := [.p (.v (.string ⟨#[]⟩)), .p (.v (.string ⟨#[116]⟩)), .p (.v (.string ⟨#[110]⟩)), .p (.v (.string ⟨#[]⟩)), .p (.v (.string ⟨#[116]⟩)), .p (.v (.string ⟨#[]⟩)), .p (.v (.string ⟨#[116]⟩)), .p (.v (.string ⟨#[116]⟩)), .p (.v (.string ⟨#[110]⟩)), .p (.v (.string ⟨#[]⟩)), .p (.v (.string ⟨#[99]⟩))]) (zaO (es := [.p (.v (.string ⟨#[]⟩)), .p (.v (.string ⟨#[116]⟩)), .p (.v (.string ⟨#[110]⟩)), .p (.v (.string ⟨#[]⟩)), .p (.v (.string ⟨#[116]⟩)), .p (.v (.string ⟨#[]⟩)), .p (.v (.string ⟨#[116]⟩)), .p (.v (.string ⟨#[116]⟩)), .p (.v (.string ⟨#[110]⟩)), .p (.v (.string ⟨#[]⟩)), .p (.v (.string ⟨#[99]⟩))]) (cs := [.v (.string ⟨#[]⟩), .v (.string ⟨#[116]⟩), .v (.string ⟨#[110]⟩), .v (.string ⟨#[]⟩), .v (.string ⟨#[116]⟩), .v (.string ⟨#[]⟩), .v (.string ⟨#[116]⟩), .v (.string ⟨#[116]⟩), .v (.string ⟨#[110]⟩), .v (.string ⟨#[]⟩), .v (.string ⟨#[99]⟩)]) 15 U89 sz9 zc9 (Nat.le_of_ble_eq_true rfl) (Nat.le_of_ble_eq_true rfl) rfl (by kernel_rfl) (by kernel_rfl) (by kernel_rfl) (Nat.le_of_ble_eq_true rfl)) (by first | rfl | kernel_rfl) rfl ⟨rfl, trivial⟩ ?_
 refine wF zav rfl<| wL U3 rfl<| wG (zaG U89 sz9 qO qO (show _ = 7 from rfl)) rfl<| wG (zbv U9 rfl rfl) rfl<| wA rfl<| zab ?_
 by_cases ht : t ≠ ⟨#[]⟩
 ·by_cases hn : n ≠ 0
  ·rw [if_pos (show seF ⟨7, t, n, a, b⟩ by simp [seF, isT, isN, isC, *])] at hE
   subst hE
   refine zaa<| zaa<| tx<| wF zaD rfl<| wL U9 rfl<| wP (zay (c := true) (by simp [ht])) rfl ?_
   refine wM rfl<| wM rfl<| wP (zay (s := ⟨#[116]⟩) (c := false) qD) rfl<| wP zao rfl<| wM rfl<| wF zaM rfl<| wL U3 rfl<| wP (zaT (c := true) (by simpa using hn)) rfl ?_
   refine wM rfl<| wM rfl<| wP (zay (s := ⟨#[116]⟩) (c := true) qD) rfl<| wP zao rfl<| wP zaj rfl<| wM rfl<| wS rfl<| wS rfl<| wS rfl<| wS rfl<| wS rfl<| wS rfl<| wS rfl<| wS rfl<| wP zao rfl<| zab<| zaf<| zax rfl<| zaa<| tx<| wA rfl<| zab<| zai<| zau ?_
   refine yT ?_ ?_
   ·exact rfl
   ·exact trivial
  replace hn : n = 0 := Decidable.not_not.1 hn
  by_cases hq : a = 0 ∧ b = 0
  ·refine zaa<| zaa<| tx<| wF zaD rfl<| wL U9 rfl<| wP (zay (c := true) (by simp [ht])) rfl ?_
   refine wM rfl<| wM rfl<| wP (zay (s := ⟨#[116]⟩) (c := false) qD) rfl<| wP zao rfl<| wM rfl<| wF zaM rfl<| wL U3 rfl<| wP (zaT (c := false) (by simp [hn])) rfl ?_
   refine wM rfl<| wS rfl<| wS rfl<| wP zaj rfl<| wP zaj rfl<| wM rfl<| wF za2 rfl<| wN U27 sz27 rfl ?_
   refine wP (zaQ pl27 zr27 rfl rfl) rfl<| wP (zaP U27 rfl rfl (by kernel_rfl) (by kernel_rfl) (by kernel_rfl) (c := false) (by rw [zbs]; simp [hq])) rfl ?_
   refine wM rfl<| wS rfl<| wS rfl<| wP zaj rfl<| wP zaj rfl<| zab<| zaf<| zag rfl ?_
   rw [if_neg (show ¬ seF ⟨7, t, n, a, b⟩ by simp [seF, isT, isN, isC, *])] at hE
   rw [seV_7] at hE
   refine zae<| zaa<| zak<| zaa<| tx<| wM rfl<| wP (zaE (s := ⟨#[116]⟩) (c := false) qD) rfl<| wM rfl<| wS rfl<| wS rfl<| wS rfl<| wS rfl<| wS rfl<| wS rfl<| wS rfl<| wS rfl<| wP zaj rfl<| wA rfl<| zab<| zaf<| zag rfl<| zaa<| tx<| wM rfl ?_
   refine wP (zaE (s := ⟨#[116]⟩) (c := false) qD) rfl<| wA rfl<| zab<| zaf<| zag rfl<| zaa<| tx<| wF zav rfl<| wL U3 rfl<| wP zaz rfl<| wA rfl<| zab<| zaf<| zax rfl ?_
   subst hE
   refine zaa<| tx<| wF zaD rfl<| wL U9 rfl<| yV (fun n => 72 + 1000 * n) (hEn) func58 ?_
   refine wP (zam (r := .tup _)) rfl<| wP (zal rfl) rfl<| wP (zal rfl) rfl<| wP (zal rfl) rfl<| wA rfl<| wA rfl<| wA rfl<| zab<| zaa<| tx<| wM rfl<| wA rfl<| zab<| zai<| zaU<| zau<| yT ?_ ?_
   ·exact rfl
   ·exact trivial
  ·rw [if_pos (show seF ⟨7, t, n, a, b⟩ by simp [seF, isT, isN, isC]; omega)] at hE
   subst hE
   refine zaa<| zaa<| tx<| wF zaD rfl<| wL U9 rfl<| wP (zay (c := true) (by simp [ht])) rfl ?_
   refine wM rfl<| wM rfl<| wP (zay (s := ⟨#[116]⟩) (c := false) qD) rfl<| wP zao rfl<| wM rfl<| wF zaM rfl<| wL U3 rfl<| wP (zaT (c := false) (by simp [hn])) rfl ?_
   refine wM rfl<| wS rfl<| wS rfl<| wP zaj rfl<| wP zaj rfl<| wM rfl<| wF za2 rfl<| wN U27 sz27 rfl ?_
   refine wP (zaQ pl27 zr27 rfl rfl) rfl<| wP (zaP U27 rfl rfl (by kernel_rfl) (by kernel_rfl) (by kernel_rfl) (c := true) (by rw [zbs]; simp; omega)) rfl ?_
   refine wM rfl<| wM rfl<| wP (zay (s := ⟨#[116]⟩) (c := true) qD) rfl<| wP zao rfl<| wP zaj rfl<| zab<| zaf<| zax rfl<| zaa<| tx<| wA rfl<| zab<| zai<| zau<| yT ?_ ?_
   ·exact rfl
   ·exact trivial
 replace ht : t = ⟨#[]⟩ := Decidable.not_not.1 ht
 by_cases hn : n ≠ 0
 ·rw [if_pos (show seF ⟨7, t, n, a, b⟩ by simp [seF, isT, isN, isC, *])] at hE
  subst hE
  refine zaa<| zaa<| tx<| wF zaD rfl<| wL U9 rfl<| wP (zay (c := false) (by simp [ht])) rfl ?_
  refine wM rfl<| wS rfl<| wS rfl<| wP zaj rfl<| wM rfl<| wF zaM rfl<| wL U3 rfl<| wP (zaT (c := true) (by simpa using hn)) rfl ?_
  refine wM rfl<| wM rfl<| wP (zay (s := ⟨#[116]⟩) (c := true) qD) rfl<| wP zao rfl<| wP zaj rfl<| wM rfl<| wS rfl<| wS rfl<| wS rfl<| wS rfl<| wS rfl<| wS rfl<| wS rfl<| wS rfl<| wP zao rfl<| zab<| zaf<| zax rfl<| zaa<| tx<| wA rfl<| zab<| zai<| zau ?_
  refine yT ?_ ?_
  ·exact rfl
  ·exact trivial
 replace hn : n = 0 := Decidable.not_not.1 hn
 by_cases hq : a = 0 ∧ b = 0
 ·refine zaa<| zaa<| tx<| wF zaD rfl<| wL U9 rfl<| wP (zay (c := false) (by simp [ht])) rfl ?_
  refine wM rfl<| wS rfl<| wS rfl<| wP zaj rfl<| wM rfl<| wF zaM rfl<| wL U3 rfl<| wP (zaT (c := false) (by simp [hn])) rfl ?_
  refine wM rfl<| wS rfl<| wS rfl<| wP zaj rfl<| wP zaj rfl<| wM rfl<| wF za2 rfl<| wN U27 sz27 rfl ?_
  refine wP (zaQ pl27 zr27 rfl rfl) rfl<| wP (zaP U27 rfl rfl (by kernel_rfl) (by kernel_rfl) (by kernel_rfl) (c := false) (by rw [zbs]; simp [hq])) rfl ?_
  refine wM rfl<| wS rfl<| wS rfl<| wP zaj rfl<| wP zaj rfl<| zab<| zaf<| zag rfl ?_
  rw [if_neg (show ¬ seF ⟨7, t, n, a, b⟩ by simp [seF, isT, isN, isC, *])] at hE
  rw [seV_7] at hE
  refine zae<| zaa<| zak<| zaa<| tx<| wM rfl<| wP (zaE (s := ⟨#[116]⟩) (c := false) qD) rfl<| wM rfl<| wS rfl<| wS rfl<| wS rfl<| wS rfl<| wS rfl<| wS rfl<| wS rfl<| wS rfl<| wP zaj rfl<| wA rfl<| zab<| zaf<| zag rfl<| zaa<| tx<| wM rfl ?_
  refine wP (zaE (s := ⟨#[116]⟩) (c := false) qD) rfl<| wA rfl<| zab<| zaf<| zag rfl<| zaa<| tx<| wF zav rfl<| wL U3 rfl<| wP zaz rfl<| wA rfl<| zab<| zaf<| zax rfl ?_
  subst hE
  refine zaa<| tx<| wF zaD rfl<| wL U9 rfl<| yV (fun n => 72 + 1000 * n) (hEn) func58 ?_
  refine wP (zam (r := .tup _)) rfl<| wP (zal rfl) rfl<| wP (zal rfl) rfl<| wP (zal rfl) rfl<| wA rfl<| wA rfl<| wA rfl<| zab<| zaa<| tx<| wM rfl<| wA rfl<| zab<| zai<| zaU<| zau<| yT ?_ ?_
  ·exact rfl
  ·exact trivial
 ·rw [if_pos (show seF ⟨7, t, n, a, b⟩ by simp [seF, isT, isN, isC]; omega)] at hE
  subst hE
  refine zaa<| zaa<| tx<| wF zaD rfl<| wL U9 rfl<| wP (zay (c := false) (by simp [ht])) rfl ?_
  refine wM rfl<| wS rfl<| wS rfl<| wP zaj rfl<| wM rfl<| wF zaM rfl<| wL U3 rfl<| wP (zaT (c := false) (by simp [hn])) rfl ?_
  refine wM rfl<| wS rfl<| wS rfl<| wP zaj rfl<| wP zaj rfl<| wM rfl<| wF za2 rfl<| wN U27 sz27 rfl ?_
  refine wP (zaQ pl27 zr27 rfl rfl) rfl<| wP (zaP U27 rfl rfl (by kernel_rfl) (by kernel_rfl) (by kernel_rfl) (c := true) (by rw [zbs]; simp; omega)) rfl ?_
  refine wM rfl<| wM rfl<| wP (zay (s := ⟨#[116]⟩) (c := true) qD) rfl<| wP zao rfl<| wP zaj rfl<| zab<| zaf<| zax rfl<| zaa<| tx<| wA rfl<| zab<| zai<| zau<| yT ?_ ?_
  ·exact rfl
  ·exact trivial
set_option maxHeartbeats 2000000 in
theorem refCheck8_s (t : ByteArray) (n a b : Int) (ok : SE.OK ⟨8, t, n, a, b⟩) : Fn prog 25 [.agg (SE.cells ⟨8, t, n, a, b⟩)] (.p (.v (.int .i64 (seE ⟨8, t, n, a, b⟩)))) [] := by
 obtain ⟨hz, hn0, hn1, ha0, ha1⟩ := ok
 dsimp only at hz hn0 hn1 ha0 ha1
 obtain ⟨E, hE⟩ : ∃ E, seE ⟨8, t, n, a, b⟩ = E := ⟨_, rfl⟩
 rw [hE]
 unfold seE at hE
 rw [if_neg (by dsimp only; decide)] at hE
 show Fn prog _ [.agg [.p (.v (.int .i64 8)), .p (.v (.string t)), .p (.v (.int .i64 n)), .p (.v (.int .u32 a)), .p (.v (.int .i64 b))]] _ _
 refine zaw F25 rfl (qE rfl) fun w0 A => zaa<| tx<| wG (zaK (X := .agg _) 1 rfl) rfl<| wA rfl<| zab<| zaa<| zaa<| tx<| wF zav rfl<| wL U3 rfl<| wP za8 rfl<| wM rfl<| wF zav rfl<| wL U3 rfl<| wP zbA rfl<| wP zaj rfl<| zab<| zaf<| zag rfl<| zae<| zaa<| tx<| zah (xs := [.p (.v (.string ⟨#[]⟩)), .p (.v (.string ⟨#[116]⟩)), .p (.v (.string ⟨#[110]⟩)), .p (.v (.string ⟨#[]⟩)), .p (.v (.string ⟨#[116]⟩)), .p (.v (.string ⟨#[]⟩)), .p (.v (.string ⟨#[116]⟩)), .p (.v (.string ⟨#[116]⟩)), .p (.v (.string ⟨#[110]⟩)), .p (.v (.string ⟨#[]⟩)), .p (.v (.string ⟨#[99]⟩))]) (zaO (es := [.p (.v (.string ⟨#[]⟩)), .p (.v (.string ⟨#[116]⟩)), .p (.v (.string ⟨#[110]⟩)), .p (.v (.string ⟨#[]⟩)), .p (.v (.string ⟨#[116]⟩)), .p (.v (.string ⟨#[]⟩)), .p (.v (.string ⟨#[116]⟩)), .p (.v (.string ⟨#[116]⟩)), .p (.v (.string ⟨#[110]⟩)), .p (.v (.string ⟨#[]⟩)), .p (.v (.string ⟨#[99]⟩))]) (cs := [.v (.string ⟨#[]⟩), .v (.string ⟨#[116]⟩), .v (.string ⟨#[110]⟩), .v (.string ⟨#[]⟩), .v (.string ⟨#[116]⟩), .v (.string ⟨#[]⟩), .v (.string ⟨#[116]⟩), .v (.string ⟨#[116]⟩), .v (.string ⟨#[110]⟩), .v (.string ⟨#[]⟩), .v (.string ⟨#[99]⟩)]) 15 U89 sz9 zc9 (Nat.le_of_ble_eq_true rfl) (Nat.le_of_ble_eq_true rfl) rfl (by kernel_rfl) (by kernel_rfl) (by kernel_rfl) (Nat.le_of_ble_eq_true rfl)) (by first | rfl | kernel_rfl) rfl ⟨rfl, trivial⟩ ?_
 refine wF zav rfl<| wL U3 rfl<| wG (zaG U89 sz9 qO qO (show _ = 8 from rfl)) rfl<| wG (zbv U9 rfl rfl) rfl<| wA rfl<| zab ?_
 by_cases ht : t ≠ ⟨#[]⟩
 ·rw [if_pos (show seF ⟨8, t, n, a, b⟩ by simp [seF, isT, isN, isC, *])] at hE
  subst hE
  refine zaa<| zaa<| tx<| wF zaD rfl<| wL U9 rfl<| wP (zay (c := true) (by simp [ht])) rfl ?_
  refine wM rfl<| wM rfl<| wP (zay (s := ⟨#[110]⟩) (c := true) qD) rfl<| wP zao rfl<| wM rfl<| wS rfl<| wS rfl<| wS rfl<| wS rfl<| wS rfl<| wS rfl<| wS rfl<| wP zao rfl<| wM rfl<| wS rfl<| wS rfl<| wS rfl<| wS rfl<| wS rfl<| wS rfl<| wS rfl<| wS rfl<| wP zao rfl<| zab ?_
  refine zaf<| zax rfl<| zaa<| tx<| wA rfl<| zab<| zai<| zau<| yT ?_ ?_
  ·exact rfl
  ·exact trivial
 replace ht : t = ⟨#[]⟩ := Decidable.not_not.1 ht
 by_cases hn : n ≠ 0
 ·by_cases hq : a = 0 ∧ b = 0
  ·refine zaa<| zaa<| tx<| wF zaD rfl<| wL U9 rfl<| wP (zay (c := false) (by simp [ht])) rfl ?_
   refine wM rfl<| wS rfl<| wS rfl<| wP zaj rfl<| wM rfl<| wF zaM rfl<| wL U3 rfl<| wP (zaT (c := true) (by simpa using hn)) rfl ?_
   refine wM rfl<| wM rfl<| wP (zay (s := ⟨#[110]⟩) (c := false) qD) rfl<| wP zao rfl<| wP zaj rfl<| wM rfl<| wF za2 rfl<| wN U27 sz27 rfl ?_
   refine wP (zaQ pl27 zr27 rfl rfl) rfl<| wP (zaP U27 rfl rfl (by kernel_rfl) (by kernel_rfl) (by kernel_rfl) (c := false) (by rw [zbs]; simp [hq])) rfl ?_
   refine wM rfl<| wS rfl<| wS rfl<| wP zaj rfl<| wP zaj rfl<| zab<| zaf<| zag rfl ?_
   rw [if_neg (show ¬ seF ⟨8, t, n, a, b⟩ by simp [seF, isT, isN, isC, *])] at hE
   rw [seV_8] at hE
   by_cases hl : n < 0
   ·rw [if_pos (.inl hl)] at hE
    subst hE
    refine zae<| zaa<| zak<| zaa<| tx<| wM rfl<| wP (zaE (s := ⟨#[110]⟩) (c := true) qD) rfl<| wM rfl<| wF zaM rfl<| wL U3 rfl<| wP (zbc (c := true) (by simpa using hl)) rfl ?_
    refine wM rfl<| wS rfl<| wS rfl<| wS rfl<| wP zao rfl<| wP zao rfl<| wA rfl<| zab<| zaf<| zax rfl<| zaa<| tx<| wA rfl<| zab<| zai<| zaU<| zau<| yT ?_ ?_
    ·exact rfl
    ·exact trivial
   refine zae<| zaa<| zak<| zaa<| tx<| wM rfl<| wP (zaE (s := ⟨#[110]⟩) (c := true) qD) rfl<| wM rfl<| wF zaM rfl<| wL U3 rfl<| wP (zbc (c := false) (by simp; omega)) rfl ?_
   refine wM rfl<| wF zaM rfl<| wL U3 rfl<| wP zbA rfl<| wP zaj rfl<| wP zao rfl<| wA rfl<| zab<| zaf<| zaq _ rfl (fun h => ?_) (fun h => ?_)
   ·have h1 : 65535 < n := by simpa using h
    rw [if_pos (.inr h1)] at hE
    subst hE
    refine zaa<| tx<| wA rfl<| zab<| zai<| zaU<| zau<| yT ?_ ?_
    ·exact rfl
    ·exact trivial
   have h1 : ¬ 65535 < n := by simpa using h
   clear h
   rw [if_neg (by omega)] at hE
   subst hE
   refine zaa<| tx<| wM rfl<| wP (zaE (s := ⟨#[110]⟩) (c := false) qD) rfl<| wA rfl<| zab<| zaf<| zag rfl<| zaa<| tx<| wF zav rfl<| wL U3 rfl<| wP zaz rfl<| wA rfl<| zab<| zaf<| zag rfl<| zaa<| tx<| wF zav rfl<| wL U3 rfl<| wP zaz rfl<| wM rfl<| wS rfl ?_
   refine wS rfl<| wS rfl<| wP zaj rfl<| wA rfl<| zab<| zaf<| zag rfl<| zaa<| zaB 4 qK<| wF zav rfl<| wL U3 rfl<| wP zaz rfl<| wM rfl<| wS rfl<| wS rfl<| wS rfl<| wS rfl<| wP zaj rfl<| wA rfl<| zab ⟨qK, ?_⟩
   refine zaf<| zag rfl<| zaa<| tx<| wM rfl<| wP (zaE (s := ⟨#[110]⟩) (c := false) qD) rfl<| wA rfl<| zab<| zaf<| zag rfl<| zae<| zaa<| tx<| wA rfl<| zab<| zai<| yT ?_ ?_
   ·exact rfl
   ·exact trivial
  ·rw [if_pos (show seF ⟨8, t, n, a, b⟩ by simp [seF, isT, isN, isC]; omega)] at hE
   subst hE
   refine zaa<| zaa<| tx<| wF zaD rfl<| wL U9 rfl<| wP (zay (c := false) (by simp [ht])) rfl ?_
   refine wM rfl<| wS rfl<| wS rfl<| wP zaj rfl<| wM rfl<| wF zaM rfl<| wL U3 rfl<| wP (zaT (c := true) (by simpa using hn)) rfl ?_
   refine wM rfl<| wM rfl<| wP (zay (s := ⟨#[110]⟩) (c := false) qD) rfl<| wP zao rfl<| wP zaj rfl<| wM rfl<| wF za2 rfl<| wN U27 sz27 rfl ?_
   refine wP (zaQ pl27 zr27 rfl rfl) rfl<| wP (zaP U27 rfl rfl (by kernel_rfl) (by kernel_rfl) (by kernel_rfl) (c := true) (by rw [zbs]; simp; omega)) rfl ?_
   refine wM rfl<| wM rfl<| wP (zay (s := ⟨#[110]⟩) (c := true) qD) rfl<| wP zao rfl<| wP zaj rfl<| zab<| zaf<| zax rfl<| zaa<| tx<| wA rfl<| zab<| zai<| zau<| yT ?_ ?_
   ·exact rfl
   ·exact trivial
 replace hn : n = 0 := Decidable.not_not.1 hn
 by_cases hq : a = 0 ∧ b = 0
 ·refine zaa<| zaa<| tx<| wF zaD rfl<| wL U9 rfl<| wP (zay (c := false) (by simp [ht])) rfl ?_
  refine wM rfl<| wS rfl<| wS rfl<| wP zaj rfl<| wM rfl<| wF zaM rfl<| wL U3 rfl<| wP (zaT (c := false) (by simp [hn])) rfl ?_
  refine wM rfl<| wS rfl<| wS rfl<| wP zaj rfl<| wP zaj rfl<| wM rfl<| wF za2 rfl<| wN U27 sz27 rfl ?_
  refine wP (zaQ pl27 zr27 rfl rfl) rfl<| wP (zaP U27 rfl rfl (by kernel_rfl) (by kernel_rfl) (by kernel_rfl) (c := false) (by rw [zbs]; simp [hq])) rfl ?_
  refine wM rfl<| wS rfl<| wS rfl<| wP zaj rfl<| wP zaj rfl<| zab<| zaf<| zag rfl ?_
  rw [if_neg (show ¬ seF ⟨8, t, n, a, b⟩ by simp [seF, isT, isN, isC, *])] at hE
  rw [seV_8] at hE
  by_cases hl : n < 0
  ·rw [if_pos (.inl hl)] at hE
   subst hE
   refine zae<| zaa<| zak<| zaa<| tx<| wM rfl<| wP (zaE (s := ⟨#[110]⟩) (c := true) qD) rfl<| wM rfl<| wF zaM rfl<| wL U3 rfl<| wP (zbc (c := true) (by simpa using hl)) rfl ?_
   refine wM rfl<| wS rfl<| wS rfl<| wS rfl<| wP zao rfl<| wP zao rfl<| wA rfl<| zab<| zaf<| zax rfl<| zaa<| tx<| wA rfl<| zab<| zai<| zaU<| zau<| yT ?_ ?_
   ·exact rfl
   ·exact trivial
  refine zae<| zaa<| zak<| zaa<| tx<| wM rfl<| wP (zaE (s := ⟨#[110]⟩) (c := true) qD) rfl<| wM rfl<| wF zaM rfl<| wL U3 rfl<| wP (zbc (c := false) (by simp; omega)) rfl ?_
  refine wM rfl<| wF zaM rfl<| wL U3 rfl<| wP zbA rfl<| wP zaj rfl<| wP zao rfl<| wA rfl<| zab<| zaf<| zaq _ rfl (fun h => ?_) (fun h => ?_)
  ·have h1 : 65535 < n := by simpa using h
   rw [if_pos (.inr h1)] at hE
   subst hE
   refine zaa<| tx<| wA rfl<| zab<| zai<| zaU<| zau<| yT ?_ ?_
   ·exact rfl
   ·exact trivial
  have h1 : ¬ 65535 < n := by simpa using h
  clear h
  rw [if_neg (by omega)] at hE
  subst hE
  refine zaa<| tx<| wM rfl<| wP (zaE (s := ⟨#[110]⟩) (c := false) qD) rfl<| wA rfl<| zab<| zaf<| zag rfl<| zaa<| tx<| wF zav rfl<| wL U3 rfl<| wP zaz rfl<| wA rfl<| zab<| zaf<| zag rfl<| zaa<| tx<| wF zav rfl<| wL U3 rfl<| wP zaz rfl<| wM rfl<| wS rfl ?_
  refine wS rfl<| wS rfl<| wP zaj rfl<| wA rfl<| zab<| zaf<| zag rfl<| zaa<| zaB 4 qK<| wF zav rfl<| wL U3 rfl<| wP zaz rfl<| wM rfl<| wS rfl<| wS rfl<| wS rfl<| wS rfl<| wP zaj rfl<| wA rfl<| zab ⟨qK, ?_⟩
  refine zaf<| zag rfl<| zaa<| tx<| wM rfl<| wP (zaE (s := ⟨#[110]⟩) (c := false) qD) rfl<| wA rfl<| zab<| zaf<| zag rfl<| zae<| zaa<| tx<| wA rfl<| zab<| zai<| yT ?_ ?_
  ·exact rfl
  ·exact trivial
 ·rw [if_pos (show seF ⟨8, t, n, a, b⟩ by simp [seF, isT, isN, isC]; omega)] at hE
  subst hE
  refine zaa<| zaa<| tx<| wF zaD rfl<| wL U9 rfl<| wP (zay (c := false) (by simp [ht])) rfl ?_
  refine wM rfl<| wS rfl<| wS rfl<| wP zaj rfl<| wM rfl<| wF zaM rfl<| wL U3 rfl<| wP (zaT (c := false) (by simp [hn])) rfl ?_
  refine wM rfl<| wS rfl<| wS rfl<| wP zaj rfl<| wP zaj rfl<| wM rfl<| wF za2 rfl<| wN U27 sz27 rfl ?_
  refine wP (zaQ pl27 zr27 rfl rfl) rfl<| wP (zaP U27 rfl rfl (by kernel_rfl) (by kernel_rfl) (by kernel_rfl) (c := true) (by rw [zbs]; simp; omega)) rfl ?_
  refine wM rfl<| wM rfl<| wP (zay (s := ⟨#[110]⟩) (c := true) qD) rfl<| wP zao rfl<| wP zaj rfl<| zab<| zaf<| zax rfl<| zaa<| tx<| wA rfl<| zab<| zai<| zau<| yT ?_ ?_
  ·exact rfl
  ·exact trivial
set_option maxHeartbeats 2000000 in
theorem refCheck9_s (t : ByteArray) (n a b : Int) (ok : SE.OK ⟨9, t, n, a, b⟩) : Fn prog 25 [.agg (SE.cells ⟨9, t, n, a, b⟩)] (.p (.v (.int .i64 (seE ⟨9, t, n, a, b⟩)))) [] := by
 obtain ⟨hz, hn0, hn1, ha0, ha1⟩ := ok
 dsimp only at hz hn0 hn1 ha0 ha1
 obtain ⟨E, hE⟩ : ∃ E, seE ⟨9, t, n, a, b⟩ = E := ⟨_, rfl⟩
 rw [hE]
 unfold seE at hE
 rw [if_neg (by dsimp only; decide)] at hE
 show Fn prog _ [.agg [.p (.v (.int .i64 9)), .p (.v (.string t)), .p (.v (.int .i64 n)), .p (.v (.int .u32 a)), .p (.v (.int .i64 b))]] _ _
 refine zaw F25 rfl (qE rfl) fun w0 A => zaa<| tx<| wG (zaK (X := .agg _) 1 rfl) rfl<| wA rfl<| zab<| zaa<| zaa<| tx<| wF zav rfl<| wL U3 rfl<| wP za8 rfl<| wM rfl<| wF zav rfl<| wL U3 rfl<| wP zbA rfl<| wP zaj rfl<| zab<| zaf<| zag rfl<| zae<| zaa<| tx<| zah (xs := [.p (.v (.string ⟨#[]⟩)), .p (.v (.string ⟨#[116]⟩)), .p (.v (.string ⟨#[110]⟩)), .p (.v (.string ⟨#[]⟩)), .p (.v (.string ⟨#[116]⟩)), .p (.v (.string ⟨#[]⟩)), .p (.v (.string ⟨#[116]⟩)), .p (.v (.string ⟨#[116]⟩)), .p (.v (.string ⟨#[110]⟩)), .p (.v (.string ⟨#[]⟩)), .p (.v (.string ⟨#[99]⟩))]) (zaO (es := [.p (.v (.string ⟨#[]⟩)), .p (.v (.string ⟨#[116]⟩)), .p (.v (.string ⟨#[110]⟩)), .p (.v (.string ⟨#[]⟩)), .p (.v (.string ⟨#[116]⟩)), .p (.v (.string ⟨#[]⟩)), .p (.v (.string ⟨#[116]⟩)), .p (.v (.string ⟨#[116]⟩)), .p (.v (.string ⟨#[110]⟩)), .p (.v (.string ⟨#[]⟩)), .p (.v (.string ⟨#[99]⟩))]) (cs := [.v (.string ⟨#[]⟩), .v (.string ⟨#[116]⟩), .v (.string ⟨#[110]⟩), .v (.string ⟨#[]⟩), .v (.string ⟨#[116]⟩), .v (.string ⟨#[]⟩), .v (.string ⟨#[116]⟩), .v (.string ⟨#[116]⟩), .v (.string ⟨#[110]⟩), .v (.string ⟨#[]⟩), .v (.string ⟨#[99]⟩)]) 15 U89 sz9 zc9 (Nat.le_of_ble_eq_true rfl) (Nat.le_of_ble_eq_true rfl) rfl (by kernel_rfl) (by kernel_rfl) (by kernel_rfl) (Nat.le_of_ble_eq_true rfl)) (by first | rfl | kernel_rfl) rfl ⟨rfl, trivial⟩ ?_
 refine wF zav rfl<| wL U3 rfl<| wG (zaG U89 sz9 qO qO (show _ = 9 from rfl)) rfl<| wG (zbv U9 rfl rfl) rfl<| wA rfl<| zab ?_
 by_cases ht : t ≠ ⟨#[]⟩
 ·rw [if_pos (show seF ⟨9, t, n, a, b⟩ by simp [seF, isT, isN, isC, *])] at hE
  subst hE
  refine zaa<| zaa<| tx<| wF zaD rfl<| wL U9 rfl<| wP (zay (c := true) (by simp [ht])) rfl ?_
  refine wM rfl<| wM rfl<| wP (zay (s := ⟨#[]⟩) (c := true) qD) rfl<| wP zao rfl<| wM rfl<| wS rfl<| wS rfl<| wS rfl<| wS rfl<| wS rfl<| wS rfl<| wS rfl<| wP zao rfl<| wM rfl<| wS rfl<| wS rfl<| wS rfl<| wS rfl<| wS rfl<| wS rfl<| wS rfl<| wS rfl<| wP zao rfl<| zab ?_
  refine zaf<| zax rfl<| zaa<| tx<| wA rfl<| zab<| zai<| zau<| yT ?_ ?_
  ·exact rfl
  ·exact trivial
 replace ht : t = ⟨#[]⟩ := Decidable.not_not.1 ht
 by_cases hn : n ≠ 0
 ·rw [if_pos (show seF ⟨9, t, n, a, b⟩ by simp [seF, isT, isN, isC, *])] at hE
  subst hE
  refine zaa<| zaa<| tx<| wF zaD rfl<| wL U9 rfl<| wP (zay (c := false) (by simp [ht])) rfl ?_
  refine wM rfl<| wS rfl<| wS rfl<| wP zaj rfl<| wM rfl<| wF zaM rfl<| wL U3 rfl<| wP (zaT (c := true) (by simpa using hn)) rfl ?_
  refine wM rfl<| wM rfl<| wP (zay (s := ⟨#[]⟩) (c := true) qD) rfl<| wP zao rfl<| wP zaj rfl<| wM rfl<| wS rfl<| wS rfl<| wS rfl<| wS rfl<| wS rfl<| wS rfl<| wS rfl<| wS rfl<| wP zao rfl<| zab<| zaf<| zax rfl<| zaa<| tx<| wA rfl<| zab<| zai<| zau ?_
  refine yT ?_ ?_
  ·exact rfl
  ·exact trivial
 replace hn : n = 0 := Decidable.not_not.1 hn
 by_cases hq : a = 0 ∧ b = 0
 ·refine zaa<| zaa<| tx<| wF zaD rfl<| wL U9 rfl<| wP (zay (c := false) (by simp [ht])) rfl ?_
  refine wM rfl<| wS rfl<| wS rfl<| wP zaj rfl<| wM rfl<| wF zaM rfl<| wL U3 rfl<| wP (zaT (c := false) (by simp [hn])) rfl ?_
  refine wM rfl<| wS rfl<| wS rfl<| wP zaj rfl<| wP zaj rfl<| wM rfl<| wF za2 rfl<| wN U27 sz27 rfl ?_
  refine wP (zaQ pl27 zr27 rfl rfl) rfl<| wP (zaP U27 rfl rfl (by kernel_rfl) (by kernel_rfl) (by kernel_rfl) (c := false) (by rw [zbs]; simp [hq])) rfl ?_
  refine wM rfl<| wS rfl<| wS rfl<| wP zaj rfl<| wP zaj rfl<| zab<| zaf<| zag rfl ?_
  rw [if_neg (show ¬ seF ⟨9, t, n, a, b⟩ by simp [seF, isT, isN, isC, *])] at hE
  rw [seV_9] at hE
  refine zae<| zaa<| zak<| zaa<| tx<| wM rfl<| wP (zaE (s := ⟨#[]⟩) (c := false) qD) rfl<| wM rfl<| wS rfl<| wS rfl<| wS rfl<| wS rfl<| wS rfl<| wS rfl<| wS rfl<| wS rfl<| wP zaj rfl<| wA rfl<| zab<| zaf<| zag rfl<| zaa<| tx<| wM rfl ?_
  refine wP (zaE (s := ⟨#[]⟩) (c := false) qD) rfl<| wA rfl<| zab<| zaf<| zag rfl<| zaa<| tx<| wF zav rfl<| wL U3 rfl<| wP zaz rfl<| wA rfl<| zab<| zaf<| zag rfl<| zaa<| tx<| wF zav rfl<| wL U3 rfl<| wP zaz rfl<| wM rfl<| wS rfl<| wS rfl<| wS rfl<| wP zaj rfl ?_
  refine wA rfl<| zab<| zaf<| zag rfl<| zaa<| zaB 4 qK<| wF zav rfl<| wL U3 rfl<| wP zaz rfl<| wM rfl<| wS rfl<| wS rfl<| wS rfl<| wS rfl<| wP zaj rfl<| wA rfl<| zab ⟨qK, ?_⟩
  refine zaf<| zag rfl ?_
  subst hE
  refine zaa<| tx<| wM rfl<| wP (zaE (s := ⟨#[]⟩) (c := false) qD) rfl<| wA rfl<| zab<| zaf<| zag rfl<| zae<| zaa<| tx<| wA rfl<| zab<| zai<| yT ?_ ?_
  ·exact rfl
  ·exact trivial
 ·rw [if_pos (show seF ⟨9, t, n, a, b⟩ by simp [seF, isT, isN, isC]; omega)] at hE
  subst hE
  refine zaa<| zaa<| tx<| wF zaD rfl<| wL U9 rfl<| wP (zay (c := false) (by simp [ht])) rfl ?_
  refine wM rfl<| wS rfl<| wS rfl<| wP zaj rfl<| wM rfl<| wF zaM rfl<| wL U3 rfl<| wP (zaT (c := false) (by simp [hn])) rfl ?_
  refine wM rfl<| wS rfl<| wS rfl<| wP zaj rfl<| wP zaj rfl<| wM rfl<| wF za2 rfl<| wN U27 sz27 rfl ?_
  refine wP (zaQ pl27 zr27 rfl rfl) rfl<| wP (zaP U27 rfl rfl (by kernel_rfl) (by kernel_rfl) (by kernel_rfl) (c := true) (by rw [zbs]; simp; omega)) rfl ?_
  refine wM rfl<| wM rfl<| wP (zay (s := ⟨#[]⟩) (c := true) qD) rfl<| wP zao rfl<| wP zaj rfl<| zab<| zaf<| zax rfl<| zaa<| tx<| wA rfl<| zab<| zai<| zau<| yT ?_ ?_
  ·exact rfl
  ·exact trivial
set_option maxHeartbeats 2000000 in
theorem refCheck10_s (t : ByteArray) (n a b : Int) (ok : SE.OK ⟨10, t, n, a, b⟩) : Fn prog 25 [.agg (SE.cells ⟨10, t, n, a, b⟩)] (.p (.v (.int .i64 (seE ⟨10, t, n, a, b⟩)))) [] := by
 obtain ⟨hz, hn0, hn1, ha0, ha1⟩ := ok
 dsimp only at hz hn0 hn1 ha0 ha1
 obtain ⟨E, hE⟩ : ∃ E, seE ⟨10, t, n, a, b⟩ = E := ⟨_, rfl⟩
 rw [hE]
 unfold seE at hE
 rw [if_neg (by dsimp only; decide)] at hE
 show Fn prog _ [.agg [.p (.v (.int .i64 10)), .p (.v (.string t)), .p (.v (.int .i64 n)), .p (.v (.int .u32 a)), .p (.v (.int .i64 b))]] _ _
 have hC := nrFault_s a b ha0 ha1
 change Fn prog _ [.agg [.p (.v (.int .u32 a)), .p (.v (.int .i64 b))]] _ _ at hC
 refine zaw F25 rfl (qE rfl) fun w0 A => zaa<| tx<| wG (zaK (X := .agg _) 1 rfl) rfl<| wA rfl<| zab<| zaa<| zaa<| tx<| wF zav rfl<| wL U3 rfl<| wP za8 rfl<| wM rfl<| wF zav rfl<| wL U3 rfl<| wP zbA rfl<| wP zaj rfl<| zab<| zaf<| zag rfl<| zae<| zaa<| tx<| zah (xs := [.p (.v (.string ⟨#[]⟩)), .p (.v (.string ⟨#[116]⟩)), .p (.v (.string ⟨#[110]⟩)), .p (.v (.string ⟨#[]⟩)), .p (.v (.string ⟨#[116]⟩)), .p (.v (.string ⟨#[]⟩)), .p (.v (.string ⟨#[116]⟩)), .p (.v (.string ⟨#[116]⟩)), .p (.v (.string ⟨#[110]⟩)), .p (.v (.string ⟨#[]⟩)), .p (.v (.string ⟨#[99]⟩))]) (zaO (es := [.p (.v (.string ⟨#[]⟩)), .p (.v (.string ⟨#[116]⟩)), .p (.v (.string ⟨#[110]⟩)), .p (.v (.string ⟨#[]⟩)), .p (.v (.string ⟨#[116]⟩)), .p (.v (.string ⟨#[]⟩)), .p (.v (.string ⟨#[116]⟩)), .p (.v (.string ⟨#[116]⟩)), .p (.v (.string ⟨#[110]⟩)), .p (.v (.string ⟨#[]⟩)), .p (.v (.string ⟨#[99]⟩))]) (cs := [.v (.string ⟨#[]⟩), .v (.string ⟨#[116]⟩), .v (.string ⟨#[110]⟩), .v (.string ⟨#[]⟩), .v (.string ⟨#[116]⟩), .v (.string ⟨#[]⟩), .v (.string ⟨#[116]⟩), .v (.string ⟨#[116]⟩), .v (.string ⟨#[110]⟩), .v (.string ⟨#[]⟩), .v (.string ⟨#[99]⟩)]) 15 U89 sz9 zc9 (Nat.le_of_ble_eq_true rfl) (Nat.le_of_ble_eq_true rfl) rfl (by kernel_rfl) (by kernel_rfl) (by kernel_rfl) (Nat.le_of_ble_eq_true rfl)) (by first | rfl | kernel_rfl) rfl ⟨rfl, trivial⟩ ?_
 refine wF zav rfl<| wL U3 rfl<| wG (zaG U89 sz9 qO qO (show _ = 10 from rfl)) rfl<| wG (zbv U9 rfl rfl) rfl<| wA rfl<| zab ?_
 by_cases ht : t ≠ ⟨#[]⟩
 ·rw [if_pos (show seF ⟨10, t, n, a, b⟩ by simp [seF, isT, isN, isC, *])] at hE
  subst hE
  refine zaa<| zaa<| tx<| wF zaD rfl<| wL U9 rfl<| wP (zay (c := true) (by simp [ht])) rfl ?_
  refine wM rfl<| wM rfl<| wP (zay (s := ⟨#[99]⟩) (c := true) qD) rfl<| wP zao rfl<| wM rfl<| wS rfl<| wS rfl<| wS rfl<| wS rfl<| wS rfl<| wS rfl<| wS rfl<| wP zao rfl<| wM rfl<| wS rfl<| wS rfl<| wS rfl<| wS rfl<| wS rfl<| wS rfl<| wS rfl<| wS rfl<| wP zao rfl<| zab ?_
  refine zaf<| zax rfl<| zaa<| tx<| wA rfl<| zab<| zai<| zau<| yT ?_ ?_
  ·exact rfl
  ·exact trivial
 replace ht : t = ⟨#[]⟩ := Decidable.not_not.1 ht
 by_cases hn : n ≠ 0
 ·rw [if_pos (show seF ⟨10, t, n, a, b⟩ by simp [seF, isT, isN, isC, *])] at hE
  subst hE
  refine zaa<| zaa<| tx<| wF zaD rfl<| wL U9 rfl<| wP (zay (c := false) (by simp [ht])) rfl ?_
  refine wM rfl<| wS rfl<| wS rfl<| wP zaj rfl<| wM rfl<| wF zaM rfl<| wL U3 rfl<| wP (zaT (c := true) (by simpa using hn)) rfl ?_
  refine wM rfl<| wM rfl<| wP (zay (s := ⟨#[99]⟩) (c := true) qD) rfl<| wP zao rfl<| wP zaj rfl<| wM rfl<| wS rfl<| wS rfl<| wS rfl<| wS rfl<| wS rfl<| wS rfl<| wS rfl<| wS rfl<| wP zao rfl<| zab<| zaf<| zax rfl<| zaa<| tx<| wA rfl<| zab<| zai<| zau ?_
  refine yT ?_ ?_
  ·exact rfl
  ·exact trivial
 replace hn : n = 0 := Decidable.not_not.1 hn
 by_cases hq : a = 0 ∧ b = 0
 ·refine zaa<| zaa<| tx<| wF zaD rfl<| wL U9 rfl<| wP (zay (c := false) (by simp [ht])) rfl ?_
  refine wM rfl<| wS rfl<| wS rfl<| wP zaj rfl<| wM rfl<| wF zaM rfl<| wL U3 rfl<| wP (zaT (c := false) (by simp [hn])) rfl ?_
  refine wM rfl<| wS rfl<| wS rfl<| wP zaj rfl<| wP zaj rfl<| wM rfl<| wF za2 rfl<| wN U27 sz27 rfl ?_
  refine wP (zaQ pl27 zr27 rfl rfl) rfl<| wP (zaP U27 rfl rfl (by kernel_rfl) (by kernel_rfl) (by kernel_rfl) (c := false) (by rw [zbs]; simp [hq])) rfl ?_
  refine wM rfl<| wS rfl<| wS rfl<| wP zaj rfl<| wP zaj rfl<| zab<| zaf<| zag rfl ?_
  rw [if_neg (show ¬ seF ⟨10, t, n, a, b⟩ by simp [seF, isT, isN, isC, *])] at hE
  rw [seV_10] at hE
  refine zae<| zaa<| zak<| zaa<| tx<| wM rfl<| wP (zaE (s := ⟨#[99]⟩) (c := false) qD) rfl<| wM rfl<| wS rfl<| wS rfl<| wS rfl<| wS rfl<| wS rfl<| wS rfl<| wS rfl<| wS rfl<| wP zaj rfl<| wA rfl<| zab<| zaf<| zag rfl<| zaa<| tx<| wM rfl ?_
  refine wP (zaE (s := ⟨#[99]⟩) (c := true) qD) rfl<| wA rfl<| zab<| zaf<| zax rfl ?_
  subst hE
  refine zaa<| tx<| wF za2 rfl<| wN U27 sz27 rfl ?_
  refine yV (fun n => 64 + 1000 * n) (hC) func57 ?_
  refine wA rfl<| zab<| zai<| zaU<| zau<| yT ?_ ?_
  ·exact rfl
  ·exact trivial
 ·refine zaa<| zaa<| tx<| wF zaD rfl<| wL U9 rfl<| wP (zay (c := false) (by simp [ht])) rfl ?_
  refine wM rfl<| wS rfl<| wS rfl<| wP zaj rfl<| wM rfl<| wF zaM rfl<| wL U3 rfl<| wP (zaT (c := false) (by simp [hn])) rfl ?_
  refine wM rfl<| wS rfl<| wS rfl<| wP zaj rfl<| wP zaj rfl<| wM rfl<| wF za2 rfl<| wN U27 sz27 rfl ?_
  refine wP (zaQ pl27 zr27 rfl rfl) rfl<| wP (zaP U27 rfl rfl (by kernel_rfl) (by kernel_rfl) (by kernel_rfl) (c := true) (by rw [zbs]; simp; omega)) rfl ?_
  refine wM rfl<| wM rfl<| wP (zay (s := ⟨#[99]⟩) (c := false) qD) rfl<| wP zao rfl<| wP zaj rfl<| zab<| zaf<| zag rfl ?_
  rw [if_neg (show ¬ seF ⟨10, t, n, a, b⟩ by simp [seF, isT, isN, isC, *])] at hE
  rw [seV_10] at hE
  refine zae<| zaa<| zak<| zaa<| tx<| wM rfl<| wP (zaE (s := ⟨#[99]⟩) (c := false) qD) rfl<| wM rfl<| wS rfl<| wS rfl<| wS rfl<| wS rfl<| wS rfl<| wS rfl<| wS rfl<| wS rfl<| wP zaj rfl<| wA rfl<| zab<| zaf<| zag rfl<| zaa<| tx<| wM rfl ?_
  refine wP (zaE (s := ⟨#[99]⟩) (c := true) qD) rfl<| wA rfl<| zab<| zaf<| zax rfl ?_
  subst hE
  refine zaa<| tx<| wF za2 rfl<| wN U27 sz27 rfl ?_
  refine yV (fun n => 64 + 1000 * n) (hC) func57 ?_
  refine wA rfl<| zab<| zai<| zaU<| zau<| yT ?_ ?_
  ·exact rfl
  ·exact trivial
theorem refCheckBad_s (s : SE) (hk : s.k < 1 ∨ 10 < s.k) : Fn prog 25 [.agg s.cells] (.p (.v (.int .i64 (seE s)))) [] := by
 have hE : seE s = 2 := if_pos hk
 rw [hE]
 obtain ⟨k, t, n, a, b⟩ := s
 dsimp only at hk
 show Fn prog _ [.agg [.p (.v (.int .i64 k)), .p (.v (.string t)), .p (.v (.int .i64 n)), .p (.v (.int .u32 a)), .p (.v (.int .i64 b))]] _ _
 refine zaw F25 rfl (qE rfl) fun w0 A => zaa<| tx<| wG (zaK (X := .agg _) 1 rfl) rfl<| wA rfl<| zab<| zaa<| zaa<| tx<| wF zav rfl<| wL U3 rfl<| wP za8 rfl<| wM rfl<| mb2 _ rfl rfl (fun hb => (zbW zav rfl)) (fun _ => trivial) ?_
 refine mb2 _ rfl rfl (fun hb => (zb2 U3 rfl (by first | rfl | assumption))) (fun _ => ⟨rfl, trivial⟩) ?_
 refine mb2 _ rfl rfl (fun hb => zbA) (fun _ => trivial) ?_
 refine wP (a_or (by first | exact id | (simp; done) | grind)) rfl ?_
 refine zab<| zaf<| zaq _ rfl (fun h => ?_) (fun h => ?_)
 ·refine zaa<| tx<| wA rfl<| zab<| zai<| zau<| yT ?_ ?_
  ·exact rfl
  ·exact trivial
 ·exact absurd hk (by simp at h; omega)
theorem zbg (s : SE) (ok : s.OK) : Fn prog 25 [.agg s.cells] (.p (.v (.int .i64 (seE s)))) [] := by
 by_cases hk : s.k < 1 ∨ 10 < s.k
 ·exact refCheckBad_s s hk
 obtain ⟨k, t, n, a, b⟩ := s
 dsimp only at hk
 have : k = 1 ∨ k = 2 ∨ k = 3 ∨ k = 4 ∨ k = 5 ∨ k = 6 ∨ k = 7 ∨ k = 8 ∨ k = 9 ∨ k = 10 := by omega
 rcases this with rfl | rfl | rfl | rfl | rfl | rfl | rfl | rfl | rfl | rfl
 ·exact refCheck1_s t n a b ok
 ·exact refCheck2_s t n a b ok
 ·exact refCheck3_s t n a b ok
 ·exact refCheck4_s t n a b ok
 ·exact refCheck5_s t n a b ok
 ·exact refCheck6_s t n a b ok
 ·exact refCheck7_s t n a b ok
 ·exact refCheck8_s t n a b ok
 ·exact refCheck9_s t n a b ok
 ·exact refCheck10_s t n a b ok
end Go.Proofs.YtkdfdcodkeclmaaGreatDoor
