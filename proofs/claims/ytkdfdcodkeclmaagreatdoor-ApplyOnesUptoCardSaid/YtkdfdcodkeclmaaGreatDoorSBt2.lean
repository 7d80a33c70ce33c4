/- the reference's SettingFault, kind by kind, over data. (Printed by wip/mkbt.py.) -/
import Derived.Test.YtkdfdcodkeclmaaGreatDoorSBt1
namespace Go.Proofs.YtkdfdcodkeclmaaGreatDoor
open Go.RowKit Go.Sort Tryz
set_option linter.unusedVariables false
set_option linter.unusedSimpArgs false
set_option maxRecDepth 100000
set_option maxHeartbeats 2000000 in
theorem refCheck1_s (t : ByteArray) (n a b : Int) (ok : SE.OK ⟨1, t, n, a, b⟩) : Fn prog 25 [.agg (SE.cells ⟨1, t, n, a, b⟩)] (.p (.v (.int .i64 (seE ⟨1, t, n, a, b⟩)))) [] := by
 obtain ⟨hz, hn0, hn1, ha0, ha1⟩ := ok
 dsimp only at hz hn0 hn1 ha0 ha1
 obtain ⟨E, hE⟩ : ∃ E, seE ⟨1, t, n, a, b⟩ = E := ⟨_, rfl⟩
 rw [hE]
 unfold seE at hE
 rw [if_neg (by dsimp only; decide)] at hE
 show Fn prog _ [.agg [.p (.v (.int .i64 1)), .p (.v (.string t)), .p (.v (.int .i64 n)), .p (.v (.int .u32 a)), .p (.v (.int .i64 b))]] _ _
 have hH := zcB t
 refine zaq func25 rfl (Nat.le_of_ble_eq_true rfl) fun w0 A => ?_
 refine zaa ?_
 refine tx ?_
 refine zag (zaD (X := .agg _) 1 rfl) rfl rfl ⟨rfl, trivial⟩ ?_
 refine yA ?_
 refine zab ?_
 refine zaa (zaa ?_)
 refine tx ?_
 refine yF zap ?_
 refine yL underlying3 ?_
 refine yP za4 ?_
 refine yM ?_
 refine yF zap ?_
 refine yL underlying3 ?_
 refine yP zbD ?_
 refine yP zai ?_
 refine zab ?_
 refine zae ?_
 refine zaf rfl ?_
 refine zad (zaa ?_)
 refine tx ?_
 refine zag (xs := [.p (.v (.string ⟨#[]⟩)), .p (.v (.string ⟨#[116]⟩)), .p (.v (.string ⟨#[110]⟩)), .p (.v (.string ⟨#[]⟩)), .p (.v (.string ⟨#[116]⟩)), .p (.v (.string ⟨#[]⟩)), .p (.v (.string ⟨#[116]⟩)), .p (.v (.string ⟨#[116]⟩)), .p (.v (.string ⟨#[110]⟩)), .p (.v (.string ⟨#[]⟩)), .p (.v (.string ⟨#[99]⟩))]) (zaI (es := [.p (.v (.string ⟨#[]⟩)), .p (.v (.string ⟨#[116]⟩)), .p (.v (.string ⟨#[110]⟩)), .p (.v (.string ⟨#[]⟩)), .p (.v (.string ⟨#[116]⟩)), .p (.v (.string ⟨#[]⟩)), .p (.v (.string ⟨#[116]⟩)), .p (.v (.string ⟨#[116]⟩)), .p (.v (.string ⟨#[110]⟩)), .p (.v (.string ⟨#[]⟩)), .p (.v (.string ⟨#[99]⟩))]) (cs := [.v (.string ⟨#[]⟩), .v (.string ⟨#[116]⟩), .v (.string ⟨#[110]⟩), .v (.string ⟨#[]⟩), .v (.string ⟨#[116]⟩), .v (.string ⟨#[]⟩), .v (.string ⟨#[116]⟩), .v (.string ⟨#[116]⟩), .v (.string ⟨#[110]⟩), .v (.string ⟨#[]⟩), .v (.string ⟨#[99]⟩)]) 15 underlying89 sz9 zc9 (Nat.le_of_ble_eq_true rfl) (Nat.le_of_ble_eq_true rfl) rfl (by kernel_rfl) (by kernel_rfl) (by kernel_rfl) (Nat.le_of_ble_eq_true rfl)) (by first | rfl | kernel_rfl) rfl ⟨rfl, trivial⟩ ?_
 refine yF zap ?_
 refine yL underlying3 ?_
 refine zag (zaB underlying89 sz9 (by omega) (by omega) (show _ = 1 from rfl)) rfl rfl ⟨rfl, trivial⟩ ?_
 refine zag (zbq underlying9 rfl rfl) rfl rfl ⟨rfl, trivial⟩ ?_
 refine yA ?_
 refine zab ?_
 by_cases ht : t ≠ ⟨#[]⟩
 ·by_cases hn : n ≠ 0
  ·rw [if_pos (show seF ⟨1, t, n, a, b⟩ by simp [seF, isT, isN, isC, *])] at hE
   subst hE
   refine zaa (zaa ?_)
   refine tx ?_
   refine yF zay ?_
   refine yL underlying9 ?_
   refine zac (zau (c := true) (by simp [ht])) rfl rfl ?_
   refine yM ?_
   refine yM ?_
   refine zac (zau (s := ⟨#[116]⟩) (c := false) (by decide)) rfl rfl ?_
   refine yP zam ?_
   refine yM ?_
   refine yF zaH ?_
   refine yL underlying3 ?_
   refine zac (zaM (c := true) (by simpa using hn)) rfl rfl ?_
   refine yM ?_
   refine yM ?_
   refine zac (zau (s := ⟨#[116]⟩) (c := true) (by decide)) rfl rfl ?_
   refine yP zam ?_
   refine yP zai ?_
   refine yM ?_
   refine yS ?_
   refine yS ?_
   refine yS ?_
   refine yS ?_
   refine yS ?_
   refine yS ?_
   refine yS ?_
   refine yS ?_
   refine yP zam ?_
   refine zab ?_
   refine zae ?_
   refine zat rfl ?_
   refine zaa ?_
   refine tx ?_
   refine yA ?_
   refine zab ?_
   refine zah (zar ?_)
   refine yT ?_ ?_
   ·exact rfl
   ·exact trivial
  replace hn : n = 0 := Decidable.not_not.1 hn
  by_cases hq : a = 0 ∧ b = 0
  ·refine zaa (zaa ?_)
   refine tx ?_
   refine yF zay ?_
   refine yL underlying9 ?_
   refine zac (zau (c := true) (by simp [ht])) rfl rfl ?_
   refine yM ?_
   refine yM ?_
   refine zac (zau (s := ⟨#[116]⟩) (c := false) (by decide)) rfl rfl ?_
   refine yP zam ?_
   refine yM ?_
   refine yF zaH ?_
   refine yL underlying3 ?_
   refine zac (zaM (c := false) (by simp [hn])) rfl rfl ?_
   refine yM ?_
   refine yS ?_
   refine yS ?_
   refine yP zai ?_
   refine yP zai ?_
   refine yM ?_
   refine yF zaX ?_
   refine lN underlying27 rfl sz27 rfl rfl ⟨rfl, trivial⟩ ?_
   refine yP (zaO pl27 zr27 rfl rfl) ?_
   refine zac (zaJ underlying27 rfl rfl (by kernel_rfl) (by kernel_rfl) (by kernel_rfl) (c := false) (by rw [zbo]; simp [hq])) rfl rfl ?_
   refine yM ?_
   refine yS ?_
   refine yS ?_
   refine yP zai ?_
   refine yP zai ?_
   refine zab ?_
   refine zae ?_
   refine zaf rfl ?_
   rw [if_neg (show ¬ seF ⟨1, t, n, a, b⟩ by simp [seF, isT, isN, isC, *])] at hE
   rw [seV_1] at hE
   refine zad (zaa (zaj (zaa ?_)))
   refine tx ?_
   refine yM ?_
   refine zac (zaz (s := ⟨#[116]⟩) (c := false) (by decide)) rfl rfl ?_
   refine yM ?_
   refine yS ?_
   refine yS ?_
   refine yS ?_
   refine yS ?_
   refine yS ?_
   refine yS ?_
   refine yS ?_
   refine yS ?_
   refine yP zai ?_
   refine yA ?_
   refine zab ?_
   refine zae ?_
   refine zaf rfl ?_
   refine zaa ?_
   refine tx ?_
   refine yM ?_
   refine zac (zaz (s := ⟨#[116]⟩) (c := false) (by decide)) rfl rfl ?_
   refine yA ?_
   refine zab ?_
   refine zae ?_
   refine zaf rfl ?_
   refine zaa ?_
   refine tx ?_
   refine yF zap ?_
   refine yL underlying3 ?_
   refine yP zav ?_
   refine yA ?_
   refine zab ?_
   refine zae ?_
   refine zaf rfl ?_
   refine zaa ?_
   refine tx ?_
   refine yF zap ?_
   refine yL underlying3 ?_
   refine yP zav ?_
   refine yM ?_
   refine yS ?_
   refine yS ?_
   refine yS ?_
   refine yP zai ?_
   refine yA ?_
   refine zab ?_
   refine zae ?_
   refine zaf rfl ?_
   refine zaa ?_
   refine zaw 4 (by kernel_rfl) ?_
   refine yF zap ?_
   refine yL underlying3 ?_
   refine yP zav ?_
   refine yM ?_
   refine yS ?_
   refine yS ?_
   refine yS ?_
   refine yS ?_
   refine yP zai ?_
   refine yA ?_
   refine zab ⟨by kernel_rfl, ?_⟩
   refine zae ?_
   refine zaf rfl ?_
   subst hE
   refine zaa ?_
   refine tx ?_
   refine yM ?_
   refine zac (zaz (s := ⟨#[116]⟩) (c := true) (by decide)) rfl rfl ?_
   refine yA ?_
   refine zab ?_
   refine zae ?_
   refine zat rfl ?_
   refine zaa ?_
   refine tx ?_
   refine yF zay ?_
   refine yL underlying9 ?_
   refine yV (fun n => 101 + 1000 * n) (hH) func55 ?_
   refine yA ?_
   refine zab ?_
   refine zah (zaR (zar ?_))
   refine yT ?_ ?_
   ·exact rfl
   ·exact trivial
  ·rw [if_pos (show seF ⟨1, t, n, a, b⟩ by simp [seF, isT, isN, isC]; omega)] at hE
   subst hE
   refine zaa (zaa ?_)
   refine tx ?_
   refine yF zay ?_
   refine yL underlying9 ?_
   refine zac (zau (c := true) (by simp [ht])) rfl rfl ?_
   refine yM ?_
   refine yM ?_
   refine zac (zau (s := ⟨#[116]⟩) (c := false) (by decide)) rfl rfl ?_
   refine yP zam ?_
   refine yM ?_
   refine yF zaH ?_
   refine yL underlying3 ?_
   refine zac (zaM (c := false) (by simp [hn])) rfl rfl ?_
   refine yM ?_
   refine yS ?_
   refine yS ?_
   refine yP zai ?_
   refine yP zai ?_
   refine yM ?_
   refine yF zaX ?_
   refine lN underlying27 rfl sz27 rfl rfl ⟨rfl, trivial⟩ ?_
   refine yP (zaO pl27 zr27 rfl rfl) ?_
   refine zac (zaJ underlying27 rfl rfl (by kernel_rfl) (by kernel_rfl) (by kernel_rfl) (c := true) (by rw [zbo]; simp; omega)) rfl rfl ?_
   refine yM ?_
   refine yM ?_
   refine zac (zau (s := ⟨#[116]⟩) (c := true) (by decide)) rfl rfl ?_
   refine yP zam ?_
   refine yP zai ?_
   refine zab ?_
   refine zae ?_
   refine zat rfl ?_
   refine zaa ?_
   refine tx ?_
   refine yA ?_
   refine zab ?_
   refine zah (zar ?_)
   refine yT ?_ ?_
   ·exact rfl
   ·exact trivial
 replace ht : t = ⟨#[]⟩ := Decidable.not_not.1 ht
 by_cases hn : n ≠ 0
 ·rw [if_pos (show seF ⟨1, t, n, a, b⟩ by simp [seF, isT, isN, isC, *])] at hE
  subst hE
  refine zaa (zaa ?_)
  refine tx ?_
  refine yF zay ?_
  refine yL underlying9 ?_
  refine zac (zau (c := false) (by simp [ht])) rfl rfl ?_
  refine yM ?_
  refine yS ?_
  refine yS ?_
  refine yP zai ?_
  refine yM ?_
  refine yF zaH ?_
  refine yL underlying3 ?_
  refine zac (zaM (c := true) (by simpa using hn)) rfl rfl ?_
  refine yM ?_
  refine yM ?_
  refine zac (zau (s := ⟨#[116]⟩) (c := true) (by decide)) rfl rfl ?_
  refine yP zam ?_
  refine yP zai ?_
  refine yM ?_
  refine yS ?_
  refine yS ?_
  refine yS ?_
  refine yS ?_
  refine yS ?_
  refine yS ?_
  refine yS ?_
  refine yS ?_
  refine yP zam ?_
  refine zab ?_
  refine zae ?_
  refine zat rfl ?_
  refine zaa ?_
  refine tx ?_
  refine yA ?_
  refine zab ?_
  refine zah (zar ?_)
  refine yT ?_ ?_
  ·exact rfl
  ·exact trivial
 replace hn : n = 0 := Decidable.not_not.1 hn
 by_cases hq : a = 0 ∧ b = 0
 ·refine zaa (zaa ?_)
  refine tx ?_
  refine yF zay ?_
  refine yL underlying9 ?_
  refine zac (zau (c := false) (by simp [ht])) rfl rfl ?_
  refine yM ?_
  refine yS ?_
  refine yS ?_
  refine yP zai ?_
  refine yM ?_
  refine yF zaH ?_
  refine yL underlying3 ?_
  refine zac (zaM (c := false) (by simp [hn])) rfl rfl ?_
  refine yM ?_
  refine yS ?_
  refine yS ?_
  refine yP zai ?_
  refine yP zai ?_
  refine yM ?_
  refine yF zaX ?_
  refine lN underlying27 rfl sz27 rfl rfl ⟨rfl, trivial⟩ ?_
  refine yP (zaO pl27 zr27 rfl rfl) ?_
  refine zac (zaJ underlying27 rfl rfl (by kernel_rfl) (by kernel_rfl) (by kernel_rfl) (c := false) (by rw [zbo]; simp [hq])) rfl rfl ?_
  refine yM ?_
  refine yS ?_
  refine yS ?_
  refine yP zai ?_
  refine yP zai ?_
  refine zab ?_
  refine zae ?_
  refine zaf rfl ?_
  rw [if_neg (show ¬ seF ⟨1, t, n, a, b⟩ by simp [seF, isT, isN, isC, *])] at hE
  rw [seV_1] at hE
  refine zad (zaa (zaj (zaa ?_)))
  refine tx ?_
  refine yM ?_
  refine zac (zaz (s := ⟨#[116]⟩) (c := false) (by decide)) rfl rfl ?_
  refine yM ?_
  refine yS ?_
  refine yS ?_
  refine yS ?_
  refine yS ?_
  refine yS ?_
  refine yS ?_
  refine yS ?_
  refine yS ?_
  refine yP zai ?_
  refine yA ?_
  refine zab ?_
  refine zae ?_
  refine zaf rfl ?_
  refine zaa ?_
  refine tx ?_
  refine yM ?_
  refine zac (zaz (s := ⟨#[116]⟩) (c := false) (by decide)) rfl rfl ?_
  refine yA ?_
  refine zab ?_
  refine zae ?_
  refine zaf rfl ?_
  refine zaa ?_
  refine tx ?_
  refine yF zap ?_
  refine yL underlying3 ?_
  refine yP zav ?_
  refine yA ?_
  refine zab ?_
  refine zae ?_
  refine zaf rfl ?_
  refine zaa ?_
  refine tx ?_
  refine yF zap ?_
  refine yL underlying3 ?_
  refine yP zav ?_
  refine yM ?_
  refine yS ?_
  refine yS ?_
  refine yS ?_
  refine yP zai ?_
  refine yA ?_
  refine zab ?_
  refine zae ?_
  refine zaf rfl ?_
  refine zaa ?_
  refine zaw 4 (by kernel_rfl) ?_
  refine yF zap ?_
  refine yL underlying3 ?_
  refine yP zav ?_
  refine yM ?_
  refine yS ?_
  refine yS ?_
  refine yS ?_
  refine yS ?_
  refine yP zai ?_
  refine yA ?_
  refine zab ⟨by kernel_rfl, ?_⟩
  refine zae ?_
  refine zaf rfl ?_
  subst hE
  refine zaa ?_
  refine tx ?_
  refine yM ?_
  refine zac (zaz (s := ⟨#[116]⟩) (c := true) (by decide)) rfl rfl ?_
  refine yA ?_
  refine zab ?_
  refine zae ?_
  refine zat rfl ?_
  refine zaa ?_
  refine tx ?_
  refine yF zay ?_
  refine yL underlying9 ?_
  refine yV (fun n => 101 + 1000 * n) (hH) func55 ?_
  refine yA ?_
  refine zab ?_
  refine zah (zaR (zar ?_))
  refine yT ?_ ?_
  ·exact rfl
  ·exact trivial
 ·rw [if_pos (show seF ⟨1, t, n, a, b⟩ by simp [seF, isT, isN, isC]; omega)] at hE
  subst hE
  refine zaa (zaa ?_)
  refine tx ?_
  refine yF zay ?_
  refine yL underlying9 ?_
  refine zac (zau (c := false) (by simp [ht])) rfl rfl ?_
  refine yM ?_
  refine yS ?_
  refine yS ?_
  refine yP zai ?_
  refine yM ?_
  refine yF zaH ?_
  refine yL underlying3 ?_
  refine zac (zaM (c := false) (by simp [hn])) rfl rfl ?_
  refine yM ?_
  refine yS ?_
  refine yS ?_
  refine yP zai ?_
  refine yP zai ?_
  refine yM ?_
  refine yF zaX ?_
  refine lN underlying27 rfl sz27 rfl rfl ⟨rfl, trivial⟩ ?_
  refine yP (zaO pl27 zr27 rfl rfl) ?_
  refine zac (zaJ underlying27 rfl rfl (by kernel_rfl) (by kernel_rfl) (by kernel_rfl) (c := true) (by rw [zbo]; simp; omega)) rfl rfl ?_
  refine yM ?_
  refine yM ?_
  refine zac (zau (s := ⟨#[116]⟩) (c := true) (by decide)) rfl rfl ?_
  refine yP zam ?_
  refine yP zai ?_
  refine zab ?_
  refine zae ?_
  refine zat rfl ?_
  refine zaa ?_
  refine tx ?_
  refine yA ?_
  refine zab ?_
  refine zah (zar ?_)
  refine yT ?_ ?_
  ·exact rfl
  ·exact trivial
set_option maxHeartbeats 2000000 in
theorem refCheck2_s (t : ByteArray) (n a b : Int) (ok : SE.OK ⟨2, t, n, a, b⟩) : Fn prog 25 [.agg (SE.cells ⟨2, t, n, a, b⟩)] (.p (.v (.int .i64 (seE ⟨2, t, n, a, b⟩)))) [] := by
 obtain ⟨hz, hn0, hn1, ha0, ha1⟩ := ok
 dsimp only at hz hn0 hn1 ha0 ha1
 obtain ⟨E, hE⟩ : ∃ E, seE ⟨2, t, n, a, b⟩ = E := ⟨_, rfl⟩
 rw [hE]
 unfold seE at hE
 rw [if_neg (by dsimp only; decide)] at hE
 show Fn prog _ [.agg [.p (.v (.int .i64 2)), .p (.v (.string t)), .p (.v (.int .i64 n)), .p (.v (.int .u32 a)), .p (.v (.int .i64 b))]] _ _
 refine zaq func25 rfl (Nat.le_of_ble_eq_true rfl) fun w0 A => ?_
 refine zaa ?_
 refine tx ?_
 refine zag (zaD (X := .agg _) 1 rfl) rfl rfl ⟨rfl, trivial⟩ ?_
 refine yA ?_
 refine zab ?_
 refine zaa (zaa ?_)
 refine tx ?_
 refine yF zap ?_
 refine yL underlying3 ?_
 refine yP za4 ?_
 refine yM ?_
 refine yF zap ?_
 refine yL underlying3 ?_
 refine yP zbD ?_
 refine yP zai ?_
 refine zab ?_
 refine zae ?_
 refine zaf rfl ?_
 refine zad (zaa ?_)
 refine tx ?_
 refine zag (xs := [.p (.v (.string ⟨#[]⟩)), .p (.v (.string ⟨#[116]⟩)), .p (.v (.string ⟨#[110]⟩)), .p (.v (.string ⟨#[]⟩)), .p (.v (.string ⟨#[116]⟩)), .p (.v (.string ⟨#[]⟩)), .p (.v (.string ⟨#[116]⟩)), .p (.v (.string ⟨#[116]⟩)), .p (.v (.string ⟨#[110]⟩)), .p (.v (.string ⟨#[]⟩)), .p (.v (.string ⟨#[99]⟩))]) (zaI (es := [.p (.v (.string ⟨#[]⟩)), .p (.v (.string ⟨#[116]⟩)), .p (.v (.string ⟨#[110]⟩)), .p (.v (.string ⟨#[]⟩)), .p (.v (.string ⟨#[116]⟩)), .p (.v (.string ⟨#[]⟩)), .p (.v (.string ⟨#[116]⟩)), .p (.v (.string ⟨#[116]⟩)), .p (.v (.string ⟨#[110]⟩)), .p (.v (.string ⟨#[]⟩)), .p (.v (.string ⟨#[99]⟩))]) (cs := [.v (.string ⟨#[]⟩), .v (.string ⟨#[116]⟩), .v (.string ⟨#[110]⟩), .v (.string ⟨#[]⟩), .v (.string ⟨#[116]⟩), .v (.string ⟨#[]⟩), .v (.string ⟨#[116]⟩), .v (.string ⟨#[116]⟩), .v (.string ⟨#[110]⟩), .v (.string ⟨#[]⟩), .v (.string ⟨#[99]⟩)]) 15 underlying89 sz9 zc9 (Nat.le_of_ble_eq_true rfl) (Nat.le_of_ble_eq_true rfl) rfl (by kernel_rfl) (by kernel_rfl) (by kernel_rfl) (Nat.le_of_ble_eq_true rfl)) (by first | rfl | kernel_rfl) rfl ⟨rfl, trivial⟩ ?_
 refine yF zap ?_
 refine yL underlying3 ?_
 refine zag (zaB underlying89 sz9 (by omega) (by omega) (show _ = 2 from rfl)) rfl rfl ⟨rfl, trivial⟩ ?_
 refine zag (zbq underlying9 rfl rfl) rfl rfl ⟨rfl, trivial⟩ ?_
 refine yA ?_
 refine zab ?_
 by_cases ht : t ≠ ⟨#[]⟩
 ·rw [if_pos (show seF ⟨2, t, n, a, b⟩ by simp [seF, isT, isN, isC, *])] at hE
  subst hE
  refine zaa (zaa ?_)
  refine tx ?_
  refine yF zay ?_
  refine yL underlying9 ?_
  refine zac (zau (c := true) (by simp [ht])) rfl rfl ?_
  refine yM ?_
  refine yM ?_
  refine zac (zau (s := ⟨#[110]⟩) (c := true) (by decide)) rfl rfl ?_
  refine yP zam ?_
  refine yM ?_
  refine yS ?_
  refine yS ?_
  refine yS ?_
  refine yS ?_
  refine yS ?_
  refine yS ?_
  refine yS ?_
  refine yP zam ?_
  refine yM ?_
  refine yS ?_
  refine yS ?_
  refine yS ?_
  refine yS ?_
  refine yS ?_
  refine yS ?_
  refine yS ?_
  refine yS ?_
  refine yP zam ?_
  refine zab ?_
  refine zae ?_
  refine zat rfl ?_
  refine zaa ?_
  refine tx ?_
  refine yA ?_
  refine zab ?_
  refine zah (zar ?_)
  refine yT ?_ ?_
  ·exact rfl
  ·exact trivial
 replace ht : t = ⟨#[]⟩ := Decidable.not_not.1 ht
 by_cases hn : n ≠ 0
 ·by_cases hq : a = 0 ∧ b = 0
  ·refine zaa (zaa ?_)
   refine tx ?_
   refine yF zay ?_
   refine yL underlying9 ?_
   refine zac (zau (c := false) (by simp [ht])) rfl rfl ?_
   refine yM ?_
   refine yS ?_
   refine yS ?_
   refine yP zai ?_
   refine yM ?_
   refine yF zaH ?_
   refine yL underlying3 ?_
   refine zac (zaM (c := true) (by simpa using hn)) rfl rfl ?_
   refine yM ?_
   refine yM ?_
   refine zac (zau (s := ⟨#[110]⟩) (c := false) (by decide)) rfl rfl ?_
   refine yP zam ?_
   refine yP zai ?_
   refine yM ?_
   refine yF zaX ?_
   refine lN underlying27 rfl sz27 rfl rfl ⟨rfl, trivial⟩ ?_
   refine yP (zaO pl27 zr27 rfl rfl) ?_
   refine zac (zaJ underlying27 rfl rfl (by kernel_rfl) (by kernel_rfl) (by kernel_rfl) (c := false) (by rw [zbo]; simp [hq])) rfl rfl ?_
   refine yM ?_
   refine yS ?_
   refine yS ?_
   refine yP zai ?_
   refine yP zai ?_
   refine zab ?_
   refine zae ?_
   refine zaf rfl ?_
   rw [if_neg (show ¬ seF ⟨2, t, n, a, b⟩ by simp [seF, isT, isN, isC, *])] at hE
   rw [seV_2] at hE
   by_cases hl : n < 0
   ·rw [if_pos (.inl hl)] at hE
    subst hE
    refine zad (zaa (zaj (zaa ?_)))
    refine tx ?_
    refine yM ?_
    refine zac (zaz (s := ⟨#[110]⟩) (c := true) (by decide)) rfl rfl ?_
    refine yM ?_
    refine yF zaH ?_
    refine yL underlying3 ?_
    refine zac (za7 (c := true) (by simpa using hl)) rfl rfl ?_
    refine yM ?_
    refine yS ?_
    refine yS ?_
    refine yS ?_
    refine yP zam ?_
    refine yP zam ?_
    refine yA ?_
    refine zab ?_
    refine zae ?_
    refine zat rfl ?_
    refine zaa ?_
    refine tx ?_
    refine yA ?_
    refine zab ?_
    refine zah (zaR (zar ?_))
    refine yT ?_ ?_
    ·exact rfl
    ·exact trivial
   refine zad (zaa (zaj (zaa ?_)))
   refine tx ?_
   refine yM ?_
   refine zac (zaz (s := ⟨#[110]⟩) (c := true) (by decide)) rfl rfl ?_
   refine yM ?_
   refine yF zaH ?_
   refine yL underlying3 ?_
   refine zac (za7 (c := false) (by simp; omega)) rfl rfl ?_
   refine yM ?_
   refine yF zaH ?_
   refine yL underlying3 ?_
   refine yP zbD ?_
   refine yP zai ?_
   refine yP zam ?_
   refine yA ?_
   refine zab ?_
   refine zae ?_
   refine zan _ rfl (fun h => ?_) (fun h => ?_)
   ·have h1 : 65535 < n := by simpa using h
    rw [if_pos (.inr h1)] at hE
    subst hE
    refine zaa ?_
    refine tx ?_
    refine yA ?_
    refine zab ?_
    refine zah (zaR (zar ?_))
    refine yT ?_ ?_
    ·exact rfl
    ·exact trivial
   have h1 : ¬ 65535 < n := by simpa using h
   clear h
   rw [if_neg (by omega)] at hE
   subst hE
   refine zaa ?_
   refine tx ?_
   refine yM ?_
   refine zac (zaz (s := ⟨#[110]⟩) (c := false) (by decide)) rfl rfl ?_
   refine yA ?_
   refine zab ?_
   refine zae ?_
   refine zaf rfl ?_
   refine zaa ?_
   refine tx ?_
   refine yF zap ?_
   refine yL underlying3 ?_
   refine yP zav ?_
   refine yA ?_
   refine zab ?_
   refine zae ?_
   refine zaf rfl ?_
   refine zaa ?_
   refine tx ?_
   refine yF zap ?_
   refine yL underlying3 ?_
   refine yP zav ?_
   refine yM ?_
   refine yS ?_
   refine yS ?_
   refine yS ?_
   refine yP zai ?_
   refine yA ?_
   refine zab ?_
   refine zae ?_
   refine zaf rfl ?_
   refine zaa ?_
   refine zaw 4 (by kernel_rfl) ?_
   refine yF zap ?_
   refine yL underlying3 ?_
   refine yP zav ?_
   refine yM ?_
   refine yS ?_
   refine yS ?_
   refine yS ?_
   refine yS ?_
   refine yP zai ?_
   refine yA ?_
   refine zab ⟨by kernel_rfl, ?_⟩
   refine zae ?_
   refine zaf rfl ?_
   refine zaa ?_
   refine tx ?_
   refine yM ?_
   refine zac (zaz (s := ⟨#[110]⟩) (c := false) (by decide)) rfl rfl ?_
   refine yA ?_
   refine zab ?_
   refine zae ?_
   refine zaf rfl ?_
   refine zad (zaa ?_)
   refine tx ?_
   refine yA ?_
   refine zab ?_
   refine zah ?_
   refine yT ?_ ?_
   ·exact rfl
   ·exact trivial
  ·rw [if_pos (show seF ⟨2, t, n, a, b⟩ by simp [seF, isT, isN, isC]; omega)] at hE
   subst hE
   refine zaa (zaa ?_)
   refine tx ?_
   refine yF zay ?_
   refine yL underlying9 ?_
   refine zac (zau (c := false) (by simp [ht])) rfl rfl ?_
   refine yM ?_
   refine yS ?_
   refine yS ?_
   refine yP zai ?_
   refine yM ?_
   refine yF zaH ?_
   refine yL underlying3 ?_
   refine zac (zaM (c := true) (by simpa using hn)) rfl rfl ?_
   refine yM ?_
   refine yM ?_
   refine zac (zau (s := ⟨#[110]⟩) (c := false) (by decide)) rfl rfl ?_
   refine yP zam ?_
   refine yP zai ?_
   refine yM ?_
   refine yF zaX ?_
   refine lN underlying27 rfl sz27 rfl rfl ⟨rfl, trivial⟩ ?_
   refine yP (zaO pl27 zr27 rfl rfl) ?_
   refine zac (zaJ underlying27 rfl rfl (by kernel_rfl) (by kernel_rfl) (by kernel_rfl) (c := true) (by rw [zbo]; simp; omega)) rfl rfl ?_
   refine yM ?_
   refine yM ?_
   refine zac (zau (s := ⟨#[110]⟩) (c := true) (by decide)) rfl rfl ?_
   refine yP zam ?_
   refine yP zai ?_
   refine zab ?_
   refine zae ?_
   refine zat rfl ?_
   refine zaa ?_
   refine tx ?_
   refine yA ?_
   refine zab ?_
   refine zah (zar ?_)
   refine yT ?_ ?_
   ·exact rfl
   ·exact trivial
 replace hn : n = 0 := Decidable.not_not.1 hn
 by_cases hq : a = 0 ∧ b = 0
 ·refine zaa (zaa ?_)
  refine tx ?_
  refine yF zay ?_
  refine yL underlying9 ?_
  refine zac (zau (c := false) (by simp [ht])) rfl rfl ?_
  refine yM ?_
  refine yS ?_
  refine yS ?_
  refine yP zai ?_
  refine yM ?_
  refine yF zaH ?_
  refine yL underlying3 ?_
  refine zac (zaM (c := false) (by simp [hn])) rfl rfl ?_
  refine yM ?_
  refine yS ?_
  refine yS ?_
  refine yP zai ?_
  refine yP zai ?_
  refine yM ?_
  refine yF zaX ?_
  refine lN underlying27 rfl sz27 rfl rfl ⟨rfl, trivial⟩ ?_
  refine yP (zaO pl27 zr27 rfl rfl) ?_
  refine zac (zaJ underlying27 rfl rfl (by kernel_rfl) (by kernel_rfl) (by kernel_rfl) (c := false) (by rw [zbo]; simp [hq])) rfl rfl ?_
  refine yM ?_
  refine yS ?_
  refine yS ?_
  refine yP zai ?_
  refine yP zai ?_
  refine zab ?_
  refine zae ?_
  refine zaf rfl ?_
  rw [if_neg (show ¬ seF ⟨2, t, n, a, b⟩ by simp [seF, isT, isN, isC, *])] at hE
  rw [seV_2] at hE
  by_cases hl : n < 0
  ·rw [if_pos (.inl hl)] at hE
   subst hE
   refine zad (zaa (zaj (zaa ?_)))
   refine tx ?_
   refine yM ?_
   refine zac (zaz (s := ⟨#[110]⟩) (c := true) (by decide)) rfl rfl ?_
   refine yM ?_
   refine yF zaH ?_
   refine yL underlying3 ?_
   refine zac (za7 (c := true) (by simpa using hl)) rfl rfl ?_
   refine yM ?_
   refine yS ?_
   refine yS ?_
   refine yS ?_
   refine yP zam ?_
   refine yP zam ?_
   refine yA ?_
   refine zab ?_
   refine zae ?_
   refine zat rfl ?_
   refine zaa ?_
   refine tx ?_
   refine yA ?_
   refine zab ?_
   refine zah (zaR (zar ?_))
   refine yT ?_ ?_
   ·exact rfl
   ·exact trivial
  refine zad (zaa (zaj (zaa ?_)))
  refine tx ?_
  refine yM ?_
  refine zac (zaz (s := ⟨#[110]⟩) (c := true) (by decide)) rfl rfl ?_
  refine yM ?_
  refine yF zaH ?_
  refine yL underlying3 ?_
  refine zac (za7 (c := false) (by simp; omega)) rfl rfl ?_
  refine yM ?_
  refine yF zaH ?_
  refine yL underlying3 ?_
  refine yP zbD ?_
  refine yP zai ?_
  refine yP zam ?_
  refine yA ?_
  refine zab ?_
  refine zae ?_
  refine zan _ rfl (fun h => ?_) (fun h => ?_)
  ·have h1 : 65535 < n := by simpa using h
   rw [if_pos (.inr h1)] at hE
   subst hE
   refine zaa ?_
   refine tx ?_
   refine yA ?_
   refine zab ?_
   refine zah (zaR (zar ?_))
   refine yT ?_ ?_
   ·exact rfl
   ·exact trivial
  have h1 : ¬ 65535 < n := by simpa using h
  clear h
  rw [if_neg (by omega)] at hE
  subst hE
  refine zaa ?_
  refine tx ?_
  refine yM ?_
  refine zac (zaz (s := ⟨#[110]⟩) (c := false) (by decide)) rfl rfl ?_
  refine yA ?_
  refine zab ?_
  refine zae ?_
  refine zaf rfl ?_
  refine zaa ?_
  refine tx ?_
  refine yF zap ?_
  refine yL underlying3 ?_
  refine yP zav ?_
  refine yA ?_
  refine zab ?_
  refine zae ?_
  refine zaf rfl ?_
  refine zaa ?_
  refine tx ?_
  refine yF zap ?_
  refine yL underlying3 ?_
  refine yP zav ?_
  refine yM ?_
  refine yS ?_
  refine yS ?_
  refine yS ?_
  refine yP zai ?_
  refine yA ?_
  refine zab ?_
  refine zae ?_
  refine zaf rfl ?_
  refine zaa ?_
  refine zaw 4 (by kernel_rfl) ?_
  refine yF zap ?_
  refine yL underlying3 ?_
  refine yP zav ?_
  refine yM ?_
  refine yS ?_
  refine yS ?_
  refine yS ?_
  refine yS ?_
  refine yP zai ?_
  refine yA ?_
  refine zab ⟨by kernel_rfl, ?_⟩
  refine zae ?_
  refine zaf rfl ?_
  refine zaa ?_
  refine tx ?_
  refine yM ?_
  refine zac (zaz (s := ⟨#[110]⟩) (c := false) (by decide)) rfl rfl ?_
  refine yA ?_
  refine zab ?_
  refine zae ?_
  refine zaf rfl ?_
  refine zad (zaa ?_)
  refine tx ?_
  refine yA ?_
  refine zab ?_
  refine zah ?_
  refine yT ?_ ?_
  ·exact rfl
  ·exact trivial
 ·rw [if_pos (show seF ⟨2, t, n, a, b⟩ by simp [seF, isT, isN, isC]; omega)] at hE
  subst hE
  refine zaa (zaa ?_)
  refine tx ?_
  refine yF zay ?_
  refine yL underlying9 ?_
  refine zac (zau (c := false) (by simp [ht])) rfl rfl ?_
  refine yM ?_
  refine yS ?_
  refine yS ?_
  refine yP zai ?_
  refine yM ?_
  refine yF zaH ?_
  refine yL underlying3 ?_
  refine zac (zaM (c := false) (by simp [hn])) rfl rfl ?_
  refine yM ?_
  refine yS ?_
  refine yS ?_
  refine yP zai ?_
  refine yP zai ?_
  refine yM ?_
  refine yF zaX ?_
  refine lN underlying27 rfl sz27 rfl rfl ⟨rfl, trivial⟩ ?_
  refine yP (zaO pl27 zr27 rfl rfl) ?_
  refine zac (zaJ underlying27 rfl rfl (by kernel_rfl) (by kernel_rfl) (by kernel_rfl) (c := true) (by rw [zbo]; simp; omega)) rfl rfl ?_
  refine yM ?_
  refine yM ?_
  refine zac (zau (s := ⟨#[110]⟩) (c := true) (by decide)) rfl rfl ?_
  refine yP zam ?_
  refine yP zai ?_
  refine zab ?_
  refine zae ?_
  refine zat rfl ?_
  refine zaa ?_
  refine tx ?_
  refine yA ?_
  refine zab ?_
  refine zah (zar ?_)
  refine yT ?_ ?_
  ·exact rfl
  ·exact trivial
set_option maxHeartbeats 2000000 in
theorem refCheck3_s (t : ByteArray) (n a b : Int) (ok : SE.OK ⟨3, t, n, a, b⟩) : Fn prog 25 [.agg (SE.cells ⟨3, t, n, a, b⟩)] (.p (.v (.int .i64 (seE ⟨3, t, n, a, b⟩)))) [] := by
 obtain ⟨hz, hn0, hn1, ha0, ha1⟩ := ok
 dsimp only at hz hn0 hn1 ha0 ha1
 obtain ⟨E, hE⟩ : ∃ E, seE ⟨3, t, n, a, b⟩ = E := ⟨_, rfl⟩
 rw [hE]
 unfold seE at hE
 rw [if_neg (by dsimp only; decide)] at hE
 show Fn prog _ [.agg [.p (.v (.int .i64 3)), .p (.v (.string t)), .p (.v (.int .i64 n)), .p (.v (.int .u32 a)), .p (.v (.int .i64 b))]] _ _
 refine zaq func25 rfl (Nat.le_of_ble_eq_true rfl) fun w0 A => ?_
 refine zaa ?_
 refine tx ?_
 refine zag (zaD (X := .agg _) 1 rfl) rfl rfl ⟨rfl, trivial⟩ ?_
 refine yA ?_
 refine zab ?_
 refine zaa (zaa ?_)
 refine tx ?_
 refine yF zap ?_
 refine yL underlying3 ?_
 refine yP za4 ?_
 refine yM ?_
 refine yF zap ?_
 refine yL underlying3 ?_
 refine yP zbD ?_
 refine yP zai ?_
 refine zab ?_
 refine zae ?_
 refine zaf rfl ?_
 refine zad (zaa ?_)
 refine tx ?_
 refine zag (xs := [.p (.v (.string ⟨#[]⟩)), .p (.v (.string ⟨#[116]⟩)), .p (.v (.string ⟨#[110]⟩)), .p (.v (.string ⟨#[]⟩)), .p (.v (.string ⟨#[116]⟩)), .p (.v (.string ⟨#[]⟩)), .p (.v (.string ⟨#[116]⟩)), .p (.v (.string ⟨#[116]⟩)), .p (.v (.string ⟨#[110]⟩)), .p (.v (.string ⟨#[]⟩)), .p (.v (.string ⟨#[99]⟩))]) (zaI (es := [.p (.v (.string ⟨#[]⟩)), .p (.v (.string ⟨#[116]⟩)), .p (.v (.string ⟨#[110]⟩)), .p (.v (.string ⟨#[]⟩)), .p (.v (.string ⟨#[116]⟩)), .p (.v (.string ⟨#[]⟩)), .p (.v (.string ⟨#[116]⟩)), .p (.v (.string ⟨#[116]⟩)), .p (.v (.string ⟨#[110]⟩)), .p (.v (.string ⟨#[]⟩)), .p (.v (.string ⟨#[99]⟩))]) (cs := [.v (.string ⟨#[]⟩), .v (.string ⟨#[116]⟩), .v (.string ⟨#[110]⟩), .v (.string ⟨#[]⟩), .v (.string ⟨#[116]⟩), .v (.string ⟨#[]⟩), .v (.string ⟨#[116]⟩), .v (.string ⟨#[116]⟩), .v (.string ⟨#[110]⟩), .v (.string ⟨#[]⟩), .v (.string ⟨#[99]⟩)]) 15 underlying89 sz9 zc9 (Nat.le_of_ble_eq_true rfl) (Nat.le_of_ble_eq_true rfl) rfl (by kernel_rfl) (by kernel_rfl) (by kernel_rfl) (Nat.le_of_ble_eq_true rfl)) (by first | rfl | kernel_rfl) rfl ⟨rfl, trivial⟩ ?_
 refine yF zap ?_
 refine yL underlying3 ?_
 refine zag (zaB underlying89 sz9 (by omega) (by omega) (show _ = 3 from rfl)) rfl rfl ⟨rfl, trivial⟩ ?_
 refine zag (zbq underlying9 rfl rfl) rfl rfl ⟨rfl, trivial⟩ ?_
 refine yA ?_
 refine zab ?_
 by_cases ht : t ≠ ⟨#[]⟩
 ·rw [if_pos (show seF ⟨3, t, n, a, b⟩ by simp [seF, isT, isN, isC, *])] at hE
  subst hE
  refine zaa (zaa ?_)
  refine tx ?_
  refine yF zay ?_
  refine yL underlying9 ?_
  refine zac (zau (c := true) (by simp [ht])) rfl rfl ?_
  refine yM ?_
  refine yM ?_
  refine zac (zau (s := ⟨#[]⟩) (c := true) (by decide)) rfl rfl ?_
  refine yP zam ?_
  refine yM ?_
  refine yS ?_
  refine yS ?_
  refine yS ?_
  refine yS ?_
  refine yS ?_
  refine yS ?_
  refine yS ?_
  refine yP zam ?_
  refine yM ?_
  refine yS ?_
  refine yS ?_
  refine yS ?_
  refine yS ?_
  refine yS ?_
  refine yS ?_
  refine yS ?_
  refine yS ?_
  refine yP zam ?_
  refine zab ?_
  refine zae ?_
  refine zat rfl ?_
  refine zaa ?_
  refine tx ?_
  refine yA ?_
  refine zab ?_
  refine zah (zar ?_)
  refine yT ?_ ?_
  ·exact rfl
  ·exact trivial
 replace ht : t = ⟨#[]⟩ := Decidable.not_not.1 ht
 by_cases hn : n ≠ 0
 ·rw [if_pos (show seF ⟨3, t, n, a, b⟩ by simp [seF, isT, isN, isC, *])] at hE
  subst hE
  refine zaa (zaa ?_)
  refine tx ?_
  refine yF zay ?_
  refine yL underlying9 ?_
  refine zac (zau (c := false) (by simp [ht])) rfl rfl ?_
  refine yM ?_
  refine yS ?_
  refine yS ?_
  refine yP zai ?_
  refine yM ?_
  refine yF zaH ?_
  refine yL underlying3 ?_
  refine zac (zaM (c := true) (by simpa using hn)) rfl rfl ?_
  refine yM ?_
  refine yM ?_
  refine zac (zau (s := ⟨#[]⟩) (c := true) (by decide)) rfl rfl ?_
  refine yP zam ?_
  refine yP zai ?_
  refine yM ?_
  refine yS ?_
  refine yS ?_
  refine yS ?_
  refine yS ?_
  refine yS ?_
  refine yS ?_
  refine yS ?_
  refine yS ?_
  refine yP zam ?_
  refine zab ?_
  refine zae ?_
  refine zat rfl ?_
  refine zaa ?_
  refine tx ?_
  refine yA ?_
  refine zab ?_
  refine zah (zar ?_)
  refine yT ?_ ?_
  ·exact rfl
  ·exact trivial
 replace hn : n = 0 := Decidable.not_not.1 hn
 by_cases hq : a = 0 ∧ b = 0
 ·refine zaa (zaa ?_)
  refine tx ?_
  refine yF zay ?_
  refine yL underlying9 ?_
  refine zac (zau (c := false) (by simp [ht])) rfl rfl ?_
  refine yM ?_
  refine yS ?_
  refine yS ?_
  refine yP zai ?_
  refine yM ?_
  refine yF zaH ?_
  refine yL underlying3 ?_
  refine zac (zaM (c := false) (by simp [hn])) rfl rfl ?_
  refine yM ?_
  refine yS ?_
  refine yS ?_
  refine yP zai ?_
  refine yP zai ?_
  refine yM ?_
  refine yF zaX ?_
  refine lN underlying27 rfl sz27 rfl rfl ⟨rfl, trivial⟩ ?_
  refine yP (zaO pl27 zr27 rfl rfl) ?_
  refine zac (zaJ underlying27 rfl rfl (by kernel_rfl) (by kernel_rfl) (by kernel_rfl) (c := false) (by rw [zbo]; simp [hq])) rfl rfl ?_
  refine yM ?_
  refine yS ?_
  refine yS ?_
  refine yP zai ?_
  refine yP zai ?_
  refine zab ?_
  refine zae ?_
  refine zaf rfl ?_
  rw [if_neg (show ¬ seF ⟨3, t, n, a, b⟩ by simp [seF, isT, isN, isC, *])] at hE
  rw [seV_3] at hE
  refine zad (zaa (zaj (zaa ?_)))
  refine tx ?_
  refine yM ?_
  refine zac (zaz (s := ⟨#[]⟩) (c := false) (by decide)) rfl rfl ?_
  refine yM ?_
  refine yS ?_
  refine yS ?_
  refine yS ?_
  refine yS ?_
  refine yS ?_
  refine yS ?_
  refine yS ?_
  refine yS ?_
  refine yP zai ?_
  refine yA ?_
  refine zab ?_
  refine zae ?_
  refine zaf rfl ?_
  refine zaa ?_
  refine tx ?_
  refine yM ?_
  refine zac (zaz (s := ⟨#[]⟩) (c := false) (by decide)) rfl rfl ?_
  refine yA ?_
  refine zab ?_
  refine zae ?_
  refine zaf rfl ?_
  refine zaa ?_
  refine tx ?_
  refine yF zap ?_
  refine yL underlying3 ?_
  refine yP zav ?_
  refine yA ?_
  refine zab ?_
  refine zae ?_
  refine zaf rfl ?_
  refine zaa ?_
  refine tx ?_
  refine yF zap ?_
  refine yL underlying3 ?_
  refine yP zav ?_
  refine yM ?_
  refine yS ?_
  refine yS ?_
  refine yS ?_
  refine yP zai ?_
  refine yA ?_
  refine zab ?_
  refine zae ?_
  refine zaf rfl ?_
  refine zaa ?_
  refine zaw 4 (by kernel_rfl) ?_
  refine yF zap ?_
  refine yL underlying3 ?_
  refine yP zav ?_
  refine yM ?_
  refine yS ?_
  refine yS ?_
  refine yS ?_
  refine yS ?_
  refine yP zai ?_
  refine yA ?_
  refine zab ⟨by kernel_rfl, ?_⟩
  refine zae ?_
  refine zaf rfl ?_
  subst hE
  refine zaa ?_
  refine tx ?_
  refine yM ?_
  refine zac (zaz (s := ⟨#[]⟩) (c := false) (by decide)) rfl rfl ?_
  refine yA ?_
  refine zab ?_
  refine zae ?_
  refine zaf rfl ?_
  refine zad (zaa ?_)
  refine tx ?_
  refine yA ?_
  refine zab ?_
  refine zah ?_
  refine yT ?_ ?_
  ·exact rfl
  ·exact trivial
 ·rw [if_pos (show seF ⟨3, t, n, a, b⟩ by simp [seF, isT, isN, isC]; omega)] at hE
  subst hE
  refine zaa (zaa ?_)
  refine tx ?_
  refine yF zay ?_
  refine yL underlying9 ?_
  refine zac (zau (c := false) (by simp [ht])) rfl rfl ?_
  refine yM ?_
  refine yS ?_
  refine yS ?_
  refine yP zai ?_
  refine yM ?_
  refine yF zaH ?_
  refine yL underlying3 ?_
  refine zac (zaM (c := false) (by simp [hn])) rfl rfl ?_
  refine yM ?_
  refine yS ?_
  refine yS ?_
  refine yP zai ?_
  refine yP zai ?_
  refine yM ?_
  refine yF zaX ?_
  refine lN underlying27 rfl sz27 rfl rfl ⟨rfl, trivial⟩ ?_
  refine yP (zaO pl27 zr27 rfl rfl) ?_
  refine zac (zaJ underlying27 rfl rfl (by kernel_rfl) (by kernel_rfl) (by kernel_rfl) (c := true) (by rw [zbo]; simp; omega)) rfl rfl ?_
  refine yM ?_
  refine yM ?_
  refine zac (zau (s := ⟨#[]⟩) (c := true) (by decide)) rfl rfl ?_
  refine yP zam ?_
  refine yP zai ?_
  refine zab ?_
  refine zae ?_
  refine zat rfl ?_
  refine zaa ?_
  refine tx ?_
  refine yA ?_
  refine zab ?_
  refine zah (zar ?_)
  refine yT ?_ ?_
  ·exact rfl
  ·exact trivial
set_option maxHeartbeats 2000000 in
theorem refCheck4_s (t : ByteArray) (n a b : Int) (ok : SE.OK ⟨4, t, n, a, b⟩) : Fn prog 25 [.agg (SE.cells ⟨4, t, n, a, b⟩)] (.p (.v (.int .i64 (seE ⟨4, t, n, a, b⟩)))) [] := by
 obtain ⟨hz, hn0, hn1, ha0, ha1⟩ := ok
 dsimp only at hz hn0 hn1 ha0 ha1
 obtain ⟨E, hE⟩ : ∃ E, seE ⟨4, t, n, a, b⟩ = E := ⟨_, rfl⟩
 rw [hE]
 unfold seE at hE
 rw [if_neg (by dsimp only; decide)] at hE
 show Fn prog _ [.agg [.p (.v (.int .i64 4)), .p (.v (.string t)), .p (.v (.int .i64 n)), .p (.v (.int .u32 a)), .p (.v (.int .i64 b))]] _ _
 have hH := zcB t
 refine zaq func25 rfl (Nat.le_of_ble_eq_true rfl) fun w0 A => ?_
 refine zaa ?_
 refine tx ?_
 refine zag (zaD (X := .agg _) 1 rfl) rfl rfl ⟨rfl, trivial⟩ ?_
 refine yA ?_
 refine zab ?_
 refine zaa (zaa ?_)
 refine tx ?_
 refine yF zap ?_
 refine yL underlying3 ?_
 refine yP za4 ?_
 refine yM ?_
 refine yF zap ?_
 refine yL underlying3 ?_
 refine yP zbD ?_
 refine yP zai ?_
 refine zab ?_
 refine zae ?_
 refine zaf rfl ?_
 refine zad (zaa ?_)
 refine tx ?_
 refine zag (xs := [.p (.v (.string ⟨#[]⟩)), .p (.v (.string ⟨#[116]⟩)), .p (.v (.string ⟨#[110]⟩)), .p (.v (.string ⟨#[]⟩)), .p (.v (.string ⟨#[116]⟩)), .p (.v (.string ⟨#[]⟩)), .p (.v (.string ⟨#[116]⟩)), .p (.v (.string ⟨#[116]⟩)), .p (.v (.string ⟨#[110]⟩)), .p (.v (.string ⟨#[]⟩)), .p (.v (.string ⟨#[99]⟩))]) (zaI (es := [.p (.v (.string ⟨#[]⟩)), .p (.v (.string ⟨#[116]⟩)), .p (.v (.string ⟨#[110]⟩)), .p (.v (.string ⟨#[]⟩)), .p (.v (.string ⟨#[116]⟩)), .p (.v (.string ⟨#[]⟩)), .p (.v (.string ⟨#[116]⟩)), .p (.v (.string ⟨#[116]⟩)), .p (.v (.string ⟨#[110]⟩)), .p (.v (.string ⟨#[]⟩)), .p (.v (.string ⟨#[99]⟩))]) (cs := [.v (.string ⟨#[]⟩), .v (.string ⟨#[116]⟩), .v (.string ⟨#[110]⟩), .v (.string ⟨#[]⟩), .v (.string ⟨#[116]⟩), .v (.string ⟨#[]⟩), .v (.string ⟨#[116]⟩), .v (.string ⟨#[116]⟩), .v (.string ⟨#[110]⟩), .v (.string ⟨#[]⟩), .v (.string ⟨#[99]⟩)]) 15 underlying89 sz9 zc9 (Nat.le_of_ble_eq_true rfl) (Nat.le_of_ble_eq_true rfl) rfl (by kernel_rfl) (by kernel_rfl) (by kernel_rfl) (Nat.le_of_ble_eq_true rfl)) (by first | rfl | kernel_rfl) rfl ⟨rfl, trivial⟩ ?_
 refine yF zap ?_
 refine yL underlying3 ?_
 refine zag (zaB underlying89 sz9 (by omega) (by omega) (show _ = 4 from rfl)) rfl rfl ⟨rfl, trivial⟩ ?_
 refine zag (zbq underlying9 rfl rfl) rfl rfl ⟨rfl, trivial⟩ ?_
 refine yA ?_
 refine zab ?_
 by_cases ht : t ≠ ⟨#[]⟩
 ·by_cases hn : n ≠ 0
  ·rw [if_pos (show seF ⟨4, t, n, a, b⟩ by simp [seF, isT, isN, isC, *])] at hE
   subst hE
   refine zaa (zaa ?_)
   refine tx ?_
   refine yF zay ?_
   refine yL underlying9 ?_
   refine zac (zau (c := true) (by simp [ht])) rfl rfl ?_
   refine yM ?_
   refine yM ?_
   refine zac (zau (s := ⟨#[116]⟩) (c := false) (by decide)) rfl rfl ?_
   refine yP zam ?_
   refine yM ?_
   refine yF zaH ?_
   refine yL underlying3 ?_
   refine zac (zaM (c := true) (by simpa using hn)) rfl rfl ?_
   refine yM ?_
   refine yM ?_
   refine zac (zau (s := ⟨#[116]⟩) (c := true) (by decide)) rfl rfl ?_
   refine yP zam ?_
   refine yP zai ?_
   refine yM ?_
   refine yS ?_
   refine yS ?_
   refine yS ?_
   refine yS ?_
   refine yS ?_
   refine yS ?_
   refine yS ?_
   refine yS ?_
   refine yP zam ?_
   refine zab ?_
   refine zae ?_
   refine zat rfl ?_
   refine zaa ?_
   refine tx ?_
   refine yA ?_
   refine zab ?_
   refine zah (zar ?_)
   refine yT ?_ ?_
   ·exact rfl
   ·exact trivial
  replace hn : n = 0 := Decidable.not_not.1 hn
  by_cases hq : a = 0 ∧ b = 0
  ·refine zaa (zaa ?_)
   refine tx ?_
   refine yF zay ?_
   refine yL underlying9 ?_
   refine zac (zau (c := true) (by simp [ht])) rfl rfl ?_
   refine yM ?_
   refine yM ?_
   refine zac (zau (s := ⟨#[116]⟩) (c := false) (by decide)) rfl rfl ?_
   refine yP zam ?_
   refine yM ?_
   refine yF zaH ?_
   refine yL underlying3 ?_
   refine zac (zaM (c := false) (by simp [hn])) rfl rfl ?_
   refine yM ?_
   refine yS ?_
   refine yS ?_
   refine yP zai ?_
   refine yP zai ?_
   refine yM ?_
   refine yF zaX ?_
   refine lN underlying27 rfl sz27 rfl rfl ⟨rfl, trivial⟩ ?_
   refine yP (zaO pl27 zr27 rfl rfl) ?_
   refine zac (zaJ underlying27 rfl rfl (by kernel_rfl) (by kernel_rfl) (by kernel_rfl) (c := false) (by rw [zbo]; simp [hq])) rfl rfl ?_
   refine yM ?_
   refine yS ?_
   refine yS ?_
   refine yP zai ?_
   refine yP zai ?_
   refine zab ?_
   refine zae ?_
   refine zaf rfl ?_
   rw [if_neg (show ¬ seF ⟨4, t, n, a, b⟩ by simp [seF, isT, isN, isC, *])] at hE
   rw [seV_4] at hE
   refine zad (zaa (zaj (zaa ?_)))
   refine tx ?_
   refine yM ?_
   refine zac (zaz (s := ⟨#[116]⟩) (c := false) (by decide)) rfl rfl ?_
   refine yM ?_
   refine yS ?_
   refine yS ?_
   refine yS ?_
   refine yS ?_
   refine yS ?_
   refine yS ?_
   refine yS ?_
   refine yS ?_
   refine yP zai ?_
   refine yA ?_
   refine zab ?_
   refine zae ?_
   refine zaf rfl ?_
   refine zaa ?_
   refine tx ?_
   refine yM ?_
   refine zac (zaz (s := ⟨#[116]⟩) (c := false) (by decide)) rfl rfl ?_
   refine yA ?_
   refine zab ?_
   refine zae ?_
   refine zaf rfl ?_
   refine zaa ?_
   refine tx ?_
   refine yF zap ?_
   refine yL underlying3 ?_
   refine yP zav ?_
   refine yA ?_
   refine zab ?_
   refine zae ?_
   refine zaf rfl ?_
   refine zaa ?_
   refine tx ?_
   refine yF zap ?_
   refine yL underlying3 ?_
   refine yP zav ?_
   refine yM ?_
   refine yS ?_
   refine yS ?_
   refine yS ?_
   refine yP zai ?_
   refine yA ?_
   refine zab ?_
   refine zae ?_
   refine zaf rfl ?_
   refine zaa ?_
   refine zaw 4 (by kernel_rfl) ?_
   refine yF zap ?_
   refine yL underlying3 ?_
   refine yP zav ?_
   refine yM ?_
   refine yS ?_
   refine yS ?_
   refine yS ?_
   refine yS ?_
   refine yP zai ?_
   refine yA ?_
   refine zab ⟨by kernel_rfl, ?_⟩
   refine zae ?_
   refine zaf rfl ?_
   subst hE
   refine zaa ?_
   refine tx ?_
   refine yM ?_
   refine zac (zaz (s := ⟨#[116]⟩) (c := true) (by decide)) rfl rfl ?_
   refine yA ?_
   refine zab ?_
   refine zae ?_
   refine zat rfl ?_
   refine zaa ?_
   refine tx ?_
   refine yF zay ?_
   refine yL underlying9 ?_
   refine yV (fun n => 101 + 1000 * n) (hH) func55 ?_
   refine yA ?_
   refine zab ?_
   refine zah (zaR (zar ?_))
   refine yT ?_ ?_
   ·exact rfl
   ·exact trivial
  ·rw [if_pos (show seF ⟨4, t, n, a, b⟩ by simp [seF, isT, isN, isC]; omega)] at hE
   subst hE
   refine zaa (zaa ?_)
   refine tx ?_
   refine yF zay ?_
   refine yL underlying9 ?_
   refine zac (zau (c := true) (by simp [ht])) rfl rfl ?_
   refine yM ?_
   refine yM ?_
   refine zac (zau (s := ⟨#[116]⟩) (c := false) (by decide)) rfl rfl ?_
   refine yP zam ?_
   refine yM ?_
   refine yF zaH ?_
   refine yL underlying3 ?_
   refine zac (zaM (c := false) (by simp [hn])) rfl rfl ?_
   refine yM ?_
   refine yS ?_
   refine yS ?_
   refine yP zai ?_
   refine yP zai ?_
   refine yM ?_
   refine yF zaX ?_
   refine lN underlying27 rfl sz27 rfl rfl ⟨rfl, trivial⟩ ?_
   refine yP (zaO pl27 zr27 rfl rfl) ?_
   refine zac (zaJ underlying27 rfl rfl (by kernel_rfl) (by kernel_rfl) (by kernel_rfl) (c := true) (by rw [zbo]; simp; omega)) rfl rfl ?_
   refine yM ?_
   refine yM ?_
   refine zac (zau (s := ⟨#[116]⟩) (c := true) (by decide)) rfl rfl ?_
   refine yP zam ?_
   refine yP zai ?_
   refine zab ?_
   refine zae ?_
   refine zat rfl ?_
   refine zaa ?_
   refine tx ?_
   refine yA ?_
   refine zab ?_
   refine zah (zar ?_)
   refine yT ?_ ?_
   ·exact rfl
   ·exact trivial
 replace ht : t = ⟨#[]⟩ := Decidable.not_not.1 ht
 by_cases hn : n ≠ 0
 ·rw [if_pos (show seF ⟨4, t, n, a, b⟩ by simp [seF, isT, isN, isC, *])] at hE
  subst hE
  refine zaa (zaa ?_)
  refine tx ?_
  refine yF zay ?_
  refine yL underlying9 ?_
  refine zac (zau (c := false) (by simp [ht])) rfl rfl ?_
  refine yM ?_
  refine yS ?_
  refine yS ?_
  refine yP zai ?_
  refine yM ?_
  refine yF zaH ?_
  refine yL underlying3 ?_
  refine zac (zaM (c := true) (by simpa using hn)) rfl rfl ?_
  refine yM ?_
  refine yM ?_
  refine zac (zau (s := ⟨#[116]⟩) (c := true) (by decide)) rfl rfl ?_
  refine yP zam ?_
  refine yP zai ?_
  refine yM ?_
  refine yS ?_
  refine yS ?_
  refine yS ?_
  refine yS ?_
  refine yS ?_
  refine yS ?_
  refine yS ?_
  refine yS ?_
  refine yP zam ?_
  refine zab ?_
  refine zae ?_
  refine zat rfl ?_
  refine zaa ?_
  refine tx ?_
  refine yA ?_
  refine zab ?_
  refine zah (zar ?_)
  refine yT ?_ ?_
  ·exact rfl
  ·exact trivial
 replace hn : n = 0 := Decidable.not_not.1 hn
 by_cases hq : a = 0 ∧ b = 0
 ·refine zaa (zaa ?_)
  refine tx ?_
  refine yF zay ?_
  refine yL underlying9 ?_
  refine zac (zau (c := false) (by simp [ht])) rfl rfl ?_
  refine yM ?_
  refine yS ?_
  refine yS ?_
  refine yP zai ?_
  refine yM ?_
  refine yF zaH ?_
  refine yL underlying3 ?_
  refine zac (zaM (c := false) (by simp [hn])) rfl rfl ?_
  refine yM ?_
  refine yS ?_
  refine yS ?_
  refine yP zai ?_
  refine yP zai ?_
  refine yM ?_
  refine yF zaX ?_
  refine lN underlying27 rfl sz27 rfl rfl ⟨rfl, trivial⟩ ?_
  refine yP (zaO pl27 zr27 rfl rfl) ?_
  refine zac (zaJ underlying27 rfl rfl (by kernel_rfl) (by kernel_rfl) (by kernel_rfl) (c := false) (by rw [zbo]; simp [hq])) rfl rfl ?_
  refine yM ?_
  refine yS ?_
  refine yS ?_
  refine yP zai ?_
  refine yP zai ?_
  refine zab ?_
  refine zae ?_
  refine zaf rfl ?_
  rw [if_neg (show ¬ seF ⟨4, t, n, a, b⟩ by simp [seF, isT, isN, isC, *])] at hE
  rw [seV_4] at hE
  refine zad (zaa (zaj (zaa ?_)))
  refine tx ?_
  refine yM ?_
  refine zac (zaz (s := ⟨#[116]⟩) (c := false) (by decide)) rfl rfl ?_
  refine yM ?_
  refine yS ?_
  refine yS ?_
  refine yS ?_
  refine yS ?_
  refine yS ?_
  refine yS ?_
  refine yS ?_
  refine yS ?_
  refine yP zai ?_
  refine yA ?_
  refine zab ?_
  refine zae ?_
  refine zaf rfl ?_
  refine zaa ?_
  refine tx ?_
  refine yM ?_
  refine zac (zaz (s := ⟨#[116]⟩) (c := false) (by decide)) rfl rfl ?_
  refine yA ?_
  refine zab ?_
  refine zae ?_
  refine zaf rfl ?_
  refine zaa ?_
  refine tx ?_
  refine yF zap ?_
  refine yL underlying3 ?_
  refine yP zav ?_
  refine yA ?_
  refine zab ?_
  refine zae ?_
  refine zaf rfl ?_
  refine zaa ?_
  refine tx ?_
  refine yF zap ?_
  refine yL underlying3 ?_
  refine yP zav ?_
  refine yM ?_
  refine yS ?_
  refine yS ?_
  refine yS ?_
  refine yP zai ?_
  refine yA ?_
  refine zab ?_
  refine zae ?_
  refine zaf rfl ?_
  refine zaa ?_
  refine zaw 4 (by kernel_rfl) ?_
  refine yF zap ?_
  refine yL underlying3 ?_
  refine yP zav ?_
  refine yM ?_
  refine yS ?_
  refine yS ?_
  refine yS ?_
  refine yS ?_
  refine yP zai ?_
  refine yA ?_
  refine zab ⟨by kernel_rfl, ?_⟩
  refine zae ?_
  refine zaf rfl ?_
  subst hE
  refine zaa ?_
  refine tx ?_
  refine yM ?_
  refine zac (zaz (s := ⟨#[116]⟩) (c := true) (by decide)) rfl rfl ?_
  refine yA ?_
  refine zab ?_
  refine zae ?_
  refine zat rfl ?_
  refine zaa ?_
  refine tx ?_
  refine yF zay ?_
  refine yL underlying9 ?_
  refine yV (fun n => 101 + 1000 * n) (hH) func55 ?_
  refine yA ?_
  refine zab ?_
  refine zah (zaR (zar ?_))
  refine yT ?_ ?_
  ·exact rfl
  ·exact trivial
 ·rw [if_pos (show seF ⟨4, t, n, a, b⟩ by simp [seF, isT, isN, isC]; omega)] at hE
  subst hE
  refine zaa (zaa ?_)
  refine tx ?_
  refine yF zay ?_
  refine yL underlying9 ?_
  refine zac (zau (c := false) (by simp [ht])) rfl rfl ?_
  refine yM ?_
  refine yS ?_
  refine yS ?_
  refine yP zai ?_
  refine yM ?_
  refine yF zaH ?_
  refine yL underlying3 ?_
  refine zac (zaM (c := false) (by simp [hn])) rfl rfl ?_
  refine yM ?_
  refine yS ?_
  refine yS ?_
  refine yP zai ?_
  refine yP zai ?_
  refine yM ?_
  refine yF zaX ?_
  refine lN underlying27 rfl sz27 rfl rfl ⟨rfl, trivial⟩ ?_
  refine yP (zaO pl27 zr27 rfl rfl) ?_
  refine zac (zaJ underlying27 rfl rfl (by kernel_rfl) (by kernel_rfl) (by kernel_rfl) (c := true) (by rw [zbo]; simp; omega)) rfl rfl ?_
  refine yM ?_
  refine yM ?_
  refine zac (zau (s := ⟨#[116]⟩) (c := true) (by decide)) rfl rfl ?_
  refine yP zam ?_
  refine yP zai ?_
  refine zab ?_
  refine zae ?_
  refine zat rfl ?_
  refine zaa ?_
  refine tx ?_
  refine yA ?_
  refine zab ?_
  refine zah (zar ?_)
  refine yT ?_ ?_
  ·exact rfl
  ·exact trivial
set_option maxHeartbeats 2000000 in
theorem refCheck5_s (t : ByteArray) (n a b : Int) (ok : SE.OK ⟨5, t, n, a, b⟩) : Fn prog 25 [.agg (SE.cells ⟨5, t, n, a, b⟩)] (.p (.v (.int .i64 (seE ⟨5, t, n, a, b⟩)))) [] := by
 obtain ⟨hz, hn0, hn1, ha0, ha1⟩ := ok
 dsimp only at hz hn0 hn1 ha0 ha1
 obtain ⟨E, hE⟩ : ∃ E, seE ⟨5, t, n, a, b⟩ = E := ⟨_, rfl⟩
 rw [hE]
 unfold seE at hE
 rw [if_neg (by dsimp only; decide)] at hE
 show Fn prog _ [.agg [.p (.v (.int .i64 5)), .p (.v (.string t)), .p (.v (.int .i64 n)), .p (.v (.int .u32 a)), .p (.v (.int .i64 b))]] _ _
 refine zaq func25 rfl (Nat.le_of_ble_eq_true rfl) fun w0 A => ?_
 refine zaa ?_
 refine tx ?_
 refine zag (zaD (X := .agg _) 1 rfl) rfl rfl ⟨rfl, trivial⟩ ?_
 refine yA ?_
 refine zab ?_
 refine zaa (zaa ?_)
 refine tx ?_
 refine yF zap ?_
 refine yL underlying3 ?_
 refine yP za4 ?_
 refine yM ?_
 refine yF zap ?_
 refine yL underlying3 ?_
 refine yP zbD ?_
 refine yP zai ?_
 refine zab ?_
 refine zae ?_
 refine zaf rfl ?_
 refine zad (zaa ?_)
 refine tx ?_
 refine zag (xs := [.p (.v (.string ⟨#[]⟩)), .p (.v (.string ⟨#[116]⟩)), .p (.v (.string ⟨#[110]⟩)), .p (.v (.string ⟨#[]⟩)), .p (.v (.string ⟨#[116]⟩)), .p (.v (.string ⟨#[]⟩)), .p (.v (.string ⟨#[116]⟩)), .p (.v (.string ⟨#[116]⟩)), .p (.v (.string ⟨#[110]⟩)), .p (.v (.string ⟨#[]⟩)), .p (.v (.string ⟨#[99]⟩))]) (zaI (es := [.p (.v (.string ⟨#[]⟩)), .p (.v (.string ⟨#[116]⟩)), .p (.v (.string ⟨#[110]⟩)), .p (.v (.string ⟨#[]⟩)), .p (.v (.string ⟨#[116]⟩)), .p (.v (.string ⟨#[]⟩)), .p (.v (.string ⟨#[116]⟩)), .p (.v (.string ⟨#[116]⟩)), .p (.v (.string ⟨#[110]⟩)), .p (.v (.string ⟨#[]⟩)), .p (.v (.string ⟨#[99]⟩))]) (cs := [.v (.string ⟨#[]⟩), .v (.string ⟨#[116]⟩), .v (.string ⟨#[110]⟩), .v (.string ⟨#[]⟩), .v (.string ⟨#[116]⟩), .v (.string ⟨#[]⟩), .v (.string ⟨#[116]⟩), .v (.string ⟨#[116]⟩), .v (.string ⟨#[110]⟩), .v (.string ⟨#[]⟩), .v (.string ⟨#[99]⟩)]) 15 underlying89 sz9 zc9 (Nat.le_of_ble_eq_true rfl) (Nat.le_of_ble_eq_true rfl) rfl (by kernel_rfl) (by kernel_rfl) (by kernel_rfl) (Nat.le_of_ble_eq_true rfl)) (by first | rfl | kernel_rfl) rfl ⟨rfl, trivial⟩ ?_
 refine yF zap ?_
 refine yL underlying3 ?_
 refine zag (zaB underlying89 sz9 (by omega) (by omega) (show _ = 5 from rfl)) rfl rfl ⟨rfl, trivial⟩ ?_
 refine zag (zbq underlying9 rfl rfl) rfl rfl ⟨rfl, trivial⟩ ?_
 refine yA ?_
 refine zab ?_
 by_cases ht : t ≠ ⟨#[]⟩
 ·rw [if_pos (show seF ⟨5, t, n, a, b⟩ by simp [seF, isT, isN, isC, *])] at hE
  subst hE
  refine zaa (zaa ?_)
  refine tx ?_
  refine yF zay ?_
  refine yL underlying9 ?_
  refine zac (zau (c := true) (by simp [ht])) rfl rfl ?_
  refine yM ?_
  refine yM ?_
  refine zac (zau (s := ⟨#[]⟩) (c := true) (by decide)) rfl rfl ?_
  refine yP zam ?_
  refine yM ?_
  refine yS ?_
  refine yS ?_
  refine yS ?_
  refine yS ?_
  refine yS ?_
  refine yS ?_
  refine yS ?_
  refine yP zam ?_
  refine yM ?_
  refine yS ?_
  refine yS ?_
  refine yS ?_
  refine yS ?_
  refine yS ?_
  refine yS ?_
  refine yS ?_
  refine yS ?_
  refine yP zam ?_
  refine zab ?_
  refine zae ?_
  refine zat rfl ?_
  refine zaa ?_
  refine tx ?_
  refine yA ?_
  refine zab ?_
  refine zah (zar ?_)
  refine yT ?_ ?_
  ·exact rfl
  ·exact trivial
 replace ht : t = ⟨#[]⟩ := Decidable.not_not.1 ht
 by_cases hn : n ≠ 0
 ·rw [if_pos (show seF ⟨5, t, n, a, b⟩ by simp [seF, isT, isN, isC, *])] at hE
  subst hE
  refine zaa (zaa ?_)
  refine tx ?_
  refine yF zay ?_
  refine yL underlying9 ?_
  refine zac (zau (c := false) (by simp [ht])) rfl rfl ?_
  refine yM ?_
  refine yS ?_
  refine yS ?_
  refine yP zai ?_
  refine yM ?_
  refine yF zaH ?_
  refine yL underlying3 ?_
  refine zac (zaM (c := true) (by simpa using hn)) rfl rfl ?_
  refine yM ?_
  refine yM ?_
  refine zac (zau (s := ⟨#[]⟩) (c := true) (by decide)) rfl rfl ?_
  refine yP zam ?_
  refine yP zai ?_
  refine yM ?_
  refine yS ?_
  refine yS ?_
  refine yS ?_
  refine yS ?_
  refine yS ?_
  refine yS ?_
  refine yS ?_
  refine yS ?_
  refine yP zam ?_
  refine zab ?_
  refine zae ?_
  refine zat rfl ?_
  refine zaa ?_
  refine tx ?_
  refine yA ?_
  refine zab ?_
  refine zah (zar ?_)
  refine yT ?_ ?_
  ·exact rfl
  ·exact trivial
 replace hn : n = 0 := Decidable.not_not.1 hn
 by_cases hq : a = 0 ∧ b = 0
 ·refine zaa (zaa ?_)
  refine tx ?_
  refine yF zay ?_
  refine yL underlying9 ?_
  refine zac (zau (c := false) (by simp [ht])) rfl rfl ?_
  refine yM ?_
  refine yS ?_
  refine yS ?_
  refine yP zai ?_
  refine yM ?_
  refine yF zaH ?_
  refine yL underlying3 ?_
  refine zac (zaM (c := false) (by simp [hn])) rfl rfl ?_
  refine yM ?_
  refine yS ?_
  refine yS ?_
  refine yP zai ?_
  refine yP zai ?_
  refine yM ?_
  refine yF zaX ?_
  refine lN underlying27 rfl sz27 rfl rfl ⟨rfl, trivial⟩ ?_
  refine yP (zaO pl27 zr27 rfl rfl) ?_
  refine zac (zaJ underlying27 rfl rfl (by kernel_rfl) (by kernel_rfl) (by kernel_rfl) (c := false) (by rw [zbo]; simp [hq])) rfl rfl ?_
  refine yM ?_
  refine yS ?_
  refine yS ?_
  refine yP zai ?_
  refine yP zai ?_
  refine zab ?_
  refine zae ?_
  refine zaf rfl ?_
  rw [if_neg (show ¬ seF ⟨5, t, n, a, b⟩ by simp [seF, isT, isN, isC, *])] at hE
  rw [seV_5] at hE
  refine zad (zaa (zaj (zaa ?_)))
  refine tx ?_
  refine yM ?_
  refine zac (zaz (s := ⟨#[]⟩) (c := false) (by decide)) rfl rfl ?_
  refine yM ?_
  refine yS ?_
  refine yS ?_
  refine yS ?_
  refine yS ?_
  refine yS ?_
  refine yS ?_
  refine yS ?_
  refine yS ?_
  refine yP zai ?_
  refine yA ?_
  refine zab ?_
  refine zae ?_
  refine zaf rfl ?_
  refine zaa ?_
  refine tx ?_
  refine yM ?_
  refine zac (zaz (s := ⟨#[]⟩) (c := false) (by decide)) rfl rfl ?_
  refine yA ?_
  refine zab ?_
  refine zae ?_
  refine zaf rfl ?_
  refine zaa ?_
  refine tx ?_
  refine yF zap ?_
  refine yL underlying3 ?_
  refine yP zav ?_
  refine yA ?_
  refine zab ?_
  refine zae ?_
  refine zaf rfl ?_
  refine zaa ?_
  refine tx ?_
  refine yF zap ?_
  refine yL underlying3 ?_
  refine yP zav ?_
  refine yM ?_
  refine yS ?_
  refine yS ?_
  refine yS ?_
  refine yP zai ?_
  refine yA ?_
  refine zab ?_
  refine zae ?_
  refine zaf rfl ?_
  refine zaa ?_
  refine zaw 4 (by kernel_rfl) ?_
  refine yF zap ?_
  refine yL underlying3 ?_
  refine yP zav ?_
  refine yM ?_
  refine yS ?_
  refine yS ?_
  refine yS ?_
  refine yS ?_
  refine yP zai ?_
  refine yA ?_
  refine zab ⟨by kernel_rfl, ?_⟩
  refine zae ?_
  refine zaf rfl ?_
  subst hE
  refine zaa ?_
  refine tx ?_
  refine yM ?_
  refine zac (zaz (s := ⟨#[]⟩) (c := false) (by decide)) rfl rfl ?_
  refine yA ?_
  refine zab ?_
  refine zae ?_
  refine zaf rfl ?_
  refine zad (zaa ?_)
  refine tx ?_
  refine yA ?_
  refine zab ?_
  refine zah ?_
  refine yT ?_ ?_
  ·exact rfl
  ·exact trivial
 ·rw [if_pos (show seF ⟨5, t, n, a, b⟩ by simp [seF, isT, isN, isC]; omega)] at hE
  subst hE
  refine zaa (zaa ?_)
  refine tx ?_
  refine yF zay ?_
  refine yL underlying9 ?_
  refine zac (zau (c := false) (by simp [ht])) rfl rfl ?_
  refine yM ?_
  refine yS ?_
  refine yS ?_
  refine yP zai ?_
  refine yM ?_
  refine yF zaH ?_
  refine yL underlying3 ?_
  refine zac (zaM (c := false) (by simp [hn])) rfl rfl ?_
  refine yM ?_
  refine yS ?_
  refine yS ?_
  refine yP zai ?_
  refine yP zai ?_
  refine yM ?_
  refine yF zaX ?_
  refine lN underlying27 rfl sz27 rfl rfl ⟨rfl, trivial⟩ ?_
  refine yP (zaO pl27 zr27 rfl rfl) ?_
  refine zac (zaJ underlying27 rfl rfl (by kernel_rfl) (by kernel_rfl) (by kernel_rfl) (c := true) (by rw [zbo]; simp; omega)) rfl rfl ?_
  refine yM ?_
  refine yM ?_
  refine zac (zau (s := ⟨#[]⟩) (c := true) (by decide)) rfl rfl ?_
  refine yP zam ?_
  refine yP zai ?_
  refine zab ?_
  refine zae ?_
  refine zat rfl ?_
  refine zaa ?_
  refine tx ?_
  refine yA ?_
  refine zab ?_
  refine zah (zar ?_)
  refine yT ?_ ?_
  ·exact rfl
  ·exact trivial
set_option maxHeartbeats 2000000 in
theorem refCheck6_s (t : ByteArray) (n a b : Int) (ok : SE.OK ⟨6, t, n, a, b⟩) : Fn prog 25 [.agg (SE.cells ⟨6, t, n, a, b⟩)] (.p (.v (.int .i64 (seE ⟨6, t, n, a, b⟩)))) [] := by
 obtain ⟨hz, hn0, hn1, ha0, ha1⟩ := ok
 dsimp only at hz hn0 hn1 ha0 ha1
 obtain ⟨E, hE⟩ : ∃ E, seE ⟨6, t, n, a, b⟩ = E := ⟨_, rfl⟩
 rw [hE]
 unfold seE at hE
 rw [if_neg (by dsimp only; decide)] at hE
 show Fn prog _ [.agg [.p (.v (.int .i64 6)), .p (.v (.string t)), .p (.v (.int .i64 n)), .p (.v (.int .u32 a)), .p (.v (.int .i64 b))]] _ _
 have hH := zcB t
 have hZ := zfW
 refine zaq func25 rfl (Nat.le_of_ble_eq_true rfl) fun w0 A => ?_
 refine zaa ?_
 refine tx ?_
 refine zag (zaD (X := .agg _) 1 rfl) rfl rfl ⟨rfl, trivial⟩ ?_
 refine yA ?_
 refine zab ?_
 refine zaa (zaa ?_)
 refine tx ?_
 refine yF zap ?_
 refine yL underlying3 ?_
 refine yP za4 ?_
 refine yM ?_
 refine yF zap ?_
 refine yL underlying3 ?_
 refine yP zbD ?_
 refine yP zai ?_
 refine zab ?_
 refine zae ?_
 refine zaf rfl ?_
 refine zad (zaa ?_)
 refine tx ?_
 refine zag (xs := [.p (.v (.string ⟨#[]⟩)), .p (.v (.string ⟨#[116]⟩)), .p (.v (.string ⟨#[110]⟩)), .p (.v (.string ⟨#[]⟩)), .p (.v (.string ⟨#[116]⟩)), .p (.v (.string ⟨#[]⟩)), .p (.v (.string ⟨#[116]⟩)), .p (.v (.string ⟨#[116]⟩)), .p (.v (.string ⟨#[110]⟩)), .p (.v (.string ⟨#[]⟩)), .p (.v (.string ⟨#[99]⟩))]) (zaI (es := [.p (.v (.string ⟨#[]⟩)), .p (.v (.string ⟨#[116]⟩)), .p (.v (.string ⟨#[110]⟩)), .p (.v (.string ⟨#[]⟩)), .p (.v (.string ⟨#[116]⟩)), .p (.v (.string ⟨#[]⟩)), .p (.v (.string ⟨#[116]⟩)), .p (.v (.string ⟨#[116]⟩)), .p (.v (.string ⟨#[110]⟩)), .p (.v (.string ⟨#[]⟩)), .p (.v (.string ⟨#[99]⟩))]) (cs := [.v (.string ⟨#[]⟩), .v (.string ⟨#[116]⟩), .v (.string ⟨#[110]⟩), .v (.string ⟨#[]⟩), .v (.string ⟨#[116]⟩), .v (.string ⟨#[]⟩), .v (.string ⟨#[116]⟩), .v (.string ⟨#[116]⟩), .v (.string ⟨#[110]⟩), .v (.string ⟨#[]⟩), .v (.string ⟨#[99]⟩)]) 15 underlying89 sz9 zc9 (Nat.le_of_ble_eq_true rfl) (Nat.le_of_ble_eq_true rfl) rfl (by kernel_rfl) (by kernel_rfl) (by kernel_rfl) (Nat.le_of_ble_eq_true rfl)) (by first | rfl | kernel_rfl) rfl ⟨rfl, trivial⟩ ?_
 refine yF zap ?_
 refine yL underlying3 ?_
 refine zag (zaB underlying89 sz9 (by omega) (by omega) (show _ = 6 from rfl)) rfl rfl ⟨rfl, trivial⟩ ?_
 refine zag (zbq underlying9 rfl rfl) rfl rfl ⟨rfl, trivial⟩ ?_
 refine yA ?_
 refine zab ?_
 by_cases ht : t ≠ ⟨#[]⟩
 ·by_cases hn : n ≠ 0
  ·rw [if_pos (show seF ⟨6, t, n, a, b⟩ by simp [seF, isT, isN, isC, *])] at hE
   subst hE
   refine zaa (zaa ?_)
   refine tx ?_
   refine yF zay ?_
   refine yL underlying9 ?_
   refine zac (zau (c := true) (by simp [ht])) rfl rfl ?_
   refine yM ?_
   refine yM ?_
   refine zac (zau (s := ⟨#[116]⟩) (c := false) (by decide)) rfl rfl ?_
   refine yP zam ?_
   refine yM ?_
   refine yF zaH ?_
   refine yL underlying3 ?_
   refine zac (zaM (c := true) (by simpa using hn)) rfl rfl ?_
   refine yM ?_
   refine yM ?_
   refine zac (zau (s := ⟨#[116]⟩) (c := true) (by decide)) rfl rfl ?_
   refine yP zam ?_
   refine yP zai ?_
   refine yM ?_
   refine yS ?_
   refine yS ?_
   refine yS ?_
   refine yS ?_
   refine yS ?_
   refine yS ?_
   refine yS ?_
   refine yS ?_
   refine yP zam ?_
   refine zab ?_
   refine zae ?_
   refine zat rfl ?_
   refine zaa ?_
   refine tx ?_
   refine yA ?_
   refine zab ?_
   refine zah (zar ?_)
   refine yT ?_ ?_
   ·exact rfl
   ·exact trivial
  replace hn : n = 0 := Decidable.not_not.1 hn
  by_cases hq : a = 0 ∧ b = 0
  ·refine zaa (zaa ?_)
   refine tx ?_
   refine yF zay ?_
   refine yL underlying9 ?_
   refine zac (zau (c := true) (by simp [ht])) rfl rfl ?_
   refine yM ?_
   refine yM ?_
   refine zac (zau (s := ⟨#[116]⟩) (c := false) (by decide)) rfl rfl ?_
   refine yP zam ?_
   refine yM ?_
   refine yF zaH ?_
   refine yL underlying3 ?_
   refine zac (zaM (c := false) (by simp [hn])) rfl rfl ?_
   refine yM ?_
   refine yS ?_
   refine yS ?_
   refine yP zai ?_
   refine yP zai ?_
   refine yM ?_
   refine yF zaX ?_
   refine lN underlying27 rfl sz27 rfl rfl ⟨rfl, trivial⟩ ?_
   refine yP (zaO pl27 zr27 rfl rfl) ?_
   refine zac (zaJ underlying27 rfl rfl (by kernel_rfl) (by kernel_rfl) (by kernel_rfl) (c := false) (by rw [zbo]; simp [hq])) rfl rfl ?_
   refine yM ?_
   refine yS ?_
   refine yS ?_
   refine yP zai ?_
   refine yP zai ?_
   refine zab ?_
   refine zae ?_
   refine zaf rfl ?_
   rw [if_neg (show ¬ seF ⟨6, t, n, a, b⟩ by simp [seF, isT, isN, isC, *])] at hE
   rw [seV_6] at hE
   refine zad (zaa (zaj (zaa ?_)))
   refine tx ?_
   refine yM ?_
   refine zac (zaz (s := ⟨#[116]⟩) (c := false) (by decide)) rfl rfl ?_
   refine yM ?_
   refine yS ?_
   refine yS ?_
   refine yS ?_
   refine yS ?_
   refine yS ?_
   refine yS ?_
   refine yS ?_
   refine yS ?_
   refine yP zai ?_
   refine yA ?_
   refine zab ?_
   refine zae ?_
   refine zaf rfl ?_
   refine zaa ?_
   refine tx ?_
   refine yM ?_
   refine zac (zaz (s := ⟨#[116]⟩) (c := false) (by decide)) rfl rfl ?_
   refine yA ?_
   refine zab ?_
   refine zae ?_
   refine zaf rfl ?_
   refine zaa ?_
   refine tx ?_
   refine yF zap ?_
   refine yL underlying3 ?_
   refine yP zav ?_
   refine yA ?_
   refine zab ?_
   refine zae ?_
   refine zaf rfl ?_
   by_cases h1 : t = ⟨#[]⟩
   ·rw [if_pos h1] at hE
    subst hE
    refine zaa ?_
    refine tx ?_
    refine yF zap ?_
    refine yL underlying3 ?_
    refine yP zav ?_
    refine yM ?_
    refine yF zay ?_
    refine yL underlying9 ?_
    refine zac (zaz (c := true) (by simp [h1])) rfl rfl ?_
    refine yP zam ?_
    refine yA ?_
    refine zab ?_
    refine zae ?_
    refine zat rfl ?_
    refine zaa ?_
    refine tx ?_
    refine yA ?_
    refine zab ?_
    refine zah (zaR (zar ?_))
    refine yT ?_ ?_
    ·exact rfl
    ·exact trivial
   rw [if_neg h1] at hE
   refine zaa ?_
   refine tx ?_
   refine yF zap ?_
   refine yL underlying3 ?_
   refine yP zav ?_
   refine yM ?_
   refine yF zay ?_
   refine yL underlying9 ?_
   refine zac (zaz (c := false) (by simp [h1])) rfl rfl ?_
   refine yP zam ?_
   refine yA ?_
   refine zab ?_
   refine zae ?_
   refine zaf rfl ?_
   by_cases h2 : t = zeU
   ·rw [if_pos h2] at hE
    subst hE
    refine zaa ?_
    refine zaw 4 (by kernel_rfl) ?_
    refine yF zap ?_
    refine yL underlying3 ?_
    refine yP zav ?_
    refine yM ?_
    refine yF zay ?_
    refine yL underlying9 ?_
    (first | refine yS ?_ | refine cS (fun n => 93 + 1000 * n) (hZ) func59 ?_)
    refine zac (zaz (c := true) (by simp [h2])) rfl rfl ?_
    refine yP zam ?_
    refine yA ?_
    refine zab ⟨by kernel_rfl, ?_⟩
    refine zae ?_
    refine zat rfl ?_
    refine zaa ?_
    refine tx ?_
    refine yA ?_
    refine zab ?_
    refine zah (zaR (zar ?_))
    refine yT ?_ ?_
    ·exact rfl
    ·exact trivial
   rw [if_neg h2] at hE
   refine zaa ?_
   refine zaw 4 (by kernel_rfl) ?_
   refine yF zap ?_
   refine yL underlying3 ?_
   refine yP zav ?_
   refine yM ?_
   refine yF zay ?_
   refine yL underlying9 ?_
   (first | refine yS ?_ | refine cS (fun n => 93 + 1000 * n) (hZ) func59 ?_)
   refine zac (zaz (c := false) (by simp [h2])) rfl rfl ?_
   refine yP zam ?_
   refine yA ?_
   refine zab ⟨by kernel_rfl, ?_⟩
   refine zae ?_
   refine zaf rfl ?_
   subst hE
   refine zaa ?_
   refine tx ?_
   refine yM ?_
   refine zac (zaz (s := ⟨#[116]⟩) (c := true) (by decide)) rfl rfl ?_
   refine yA ?_
   refine zab ?_
   refine zae ?_
   refine zat rfl ?_
   refine zaa ?_
   refine tx ?_
   refine yF zay ?_
   refine yL underlying9 ?_
   refine yV (fun n => 101 + 1000 * n) (hH) func55 ?_
   refine yA ?_
   refine zab ?_
   refine zah (zaR (zar ?_))
   refine yT ?_ ?_
   ·exact rfl
   ·exact trivial
  ·rw [if_pos (show seF ⟨6, t, n, a, b⟩ by simp [seF, isT, isN, isC]; omega)] at hE
   subst hE
   refine zaa (zaa ?_)
   refine tx ?_
   refine yF zay ?_
   refine yL underlying9 ?_
   refine zac (zau (c := true) (by simp [ht])) rfl rfl ?_
   refine yM ?_
   refine yM ?_
   refine zac (zau (s := ⟨#[116]⟩) (c := false) (by decide)) rfl rfl ?_
   refine yP zam ?_
   refine yM ?_
   refine yF zaH ?_
   refine yL underlying3 ?_
   refine zac (zaM (c := false) (by simp [hn])) rfl rfl ?_
   refine yM ?_
   refine yS ?_
   refine yS ?_
   refine yP zai ?_
   refine yP zai ?_
   refine yM ?_
   refine yF zaX ?_
   refine lN underlying27 rfl sz27 rfl rfl ⟨rfl, trivial⟩ ?_
   refine yP (zaO pl27 zr27 rfl rfl) ?_
   refine zac (zaJ underlying27 rfl rfl (by kernel_rfl) (by kernel_rfl) (by kernel_rfl) (c := true) (by rw [zbo]; simp; omega)) rfl rfl ?_
   refine yM ?_
   refine yM ?_
   refine zac (zau (s := ⟨#[116]⟩) (c := true) (by decide)) rfl rfl ?_
   refine yP zam ?_
   refine yP zai ?_
   refine zab ?_
   refine zae ?_
   refine zat rfl ?_
   refine zaa ?_
   refine tx ?_
   refine yA ?_
   refine zab ?_
   refine zah (zar ?_)
   refine yT ?_ ?_
   ·exact rfl
   ·exact trivial
 replace ht : t = ⟨#[]⟩ := Decidable.not_not.1 ht
 by_cases hn : n ≠ 0
 ·rw [if_pos (show seF ⟨6, t, n, a, b⟩ by simp [seF, isT, isN, isC, *])] at hE
  subst hE
  refine zaa (zaa ?_)
  refine tx ?_
  refine yF zay ?_
  refine yL underlying9 ?_
  refine zac (zau (c := false) (by simp [ht])) rfl rfl ?_
  refine yM ?_
  refine yS ?_
  refine yS ?_
  refine yP zai ?_
  refine yM ?_
  refine yF zaH ?_
  refine yL underlying3 ?_
  refine zac (zaM (c := true) (by simpa using hn)) rfl rfl ?_
  refine yM ?_
  refine yM ?_
  refine zac (zau (s := ⟨#[116]⟩) (c := true) (by decide)) rfl rfl ?_
  refine yP zam ?_
  refine yP zai ?_
  refine yM ?_
  refine yS ?_
  refine yS ?_
  refine yS ?_
  refine yS ?_
  refine yS ?_
  refine yS ?_
  refine yS ?_
  refine yS ?_
  refine yP zam ?_
  refine zab ?_
  refine zae ?_
  refine zat rfl ?_
  refine zaa ?_
  refine tx ?_
  refine yA ?_
  refine zab ?_
  refine zah (zar ?_)
  refine yT ?_ ?_
  ·exact rfl
  ·exact trivial
 replace hn : n = 0 := Decidable.not_not.1 hn
 by_cases hq : a = 0 ∧ b = 0
 ·refine zaa (zaa ?_)
  refine tx ?_
  refine yF zay ?_
  refine yL underlying9 ?_
  refine zac (zau (c := false) (by simp [ht])) rfl rfl ?_
  refine yM ?_
  refine yS ?_
  refine yS ?_
  refine yP zai ?_
  refine yM ?_
  refine yF zaH ?_
  refine yL underlying3 ?_
  refine zac (zaM (c := false) (by simp [hn])) rfl rfl ?_
  refine yM ?_
  refine yS ?_
  refine yS ?_
  refine yP zai ?_
  refine yP zai ?_
  refine yM ?_
  refine yF zaX ?_
  refine lN underlying27 rfl sz27 rfl rfl ⟨rfl, trivial⟩ ?_
  refine yP (zaO pl27 zr27 rfl rfl) ?_
  refine zac (zaJ underlying27 rfl rfl (by kernel_rfl) (by kernel_rfl) (by kernel_rfl) (c := false) (by rw [zbo]; simp [hq])) rfl rfl ?_
  refine yM ?_
  refine yS ?_
  refine yS ?_
  refine yP zai ?_
  refine yP zai ?_
  refine zab ?_
  refine zae ?_
  refine zaf rfl ?_
  rw [if_neg (show ¬ seF ⟨6, t, n, a, b⟩ by simp [seF, isT, isN, isC, *])] at hE
  rw [seV_6] at hE
  refine zad (zaa (zaj (zaa ?_)))
  refine tx ?_
  refine yM ?_
  refine zac (zaz (s := ⟨#[116]⟩) (c := false) (by decide)) rfl rfl ?_
  refine yM ?_
  refine yS ?_
  refine yS ?_
  refine yS ?_
  refine yS ?_
  refine yS ?_
  refine yS ?_
  refine yS ?_
  refine yS ?_
  refine yP zai ?_
  refine yA ?_
  refine zab ?_
  refine zae ?_
  refine zaf rfl ?_
  refine zaa ?_
  refine tx ?_
  refine yM ?_
  refine zac (zaz (s := ⟨#[116]⟩) (c := false) (by decide)) rfl rfl ?_
  refine yA ?_
  refine zab ?_
  refine zae ?_
  refine zaf rfl ?_
  refine zaa ?_
  refine tx ?_
  refine yF zap ?_
  refine yL underlying3 ?_
  refine yP zav ?_
  refine yA ?_
  refine zab ?_
  refine zae ?_
  refine zaf rfl ?_
  by_cases h1 : t = ⟨#[]⟩
  ·rw [if_pos h1] at hE
   subst hE
   refine zaa ?_
   refine tx ?_
   refine yF zap ?_
   refine yL underlying3 ?_
   refine yP zav ?_
   refine yM ?_
   refine yF zay ?_
   refine yL underlying9 ?_
   refine zac (zaz (c := true) (by simp [h1])) rfl rfl ?_
   refine yP zam ?_
   refine yA ?_
   refine zab ?_
   refine zae ?_
   refine zat rfl ?_
   refine zaa ?_
   refine tx ?_
   refine yA ?_
   refine zab ?_
   refine zah (zaR (zar ?_))
   refine yT ?_ ?_
   ·exact rfl
   ·exact trivial
  rw [if_neg h1] at hE
  refine zaa ?_
  refine tx ?_
  refine yF zap ?_
  refine yL underlying3 ?_
  refine yP zav ?_
  refine yM ?_
  refine yF zay ?_
  refine yL underlying9 ?_
  refine zac (zaz (c := false) (by simp [h1])) rfl rfl ?_
  refine yP zam ?_
  refine yA ?_
  refine zab ?_
  refine zae ?_
  refine zaf rfl ?_
  by_cases h2 : t = zeU
  ·rw [if_pos h2] at hE
   subst hE
   refine zaa ?_
   refine zaw 4 (by kernel_rfl) ?_
   refine yF zap ?_
   refine yL underlying3 ?_
   refine yP zav ?_
   refine yM ?_
   refine yF zay ?_
   refine yL underlying9 ?_
   (first | refine yS ?_ | refine cS (fun n => 93 + 1000 * n) (hZ) func59 ?_)
   refine zac (zaz (c := true) (by simp [h2])) rfl rfl ?_
   refine yP zam ?_
   refine yA ?_
   refine zab ⟨by kernel_rfl, ?_⟩
   refine zae ?_
   refine zat rfl ?_
   refine zaa ?_
   refine tx ?_
   refine yA ?_
   refine zab ?_
   refine zah (zaR (zar ?_))
   refine yT ?_ ?_
   ·exact rfl
   ·exact trivial
  rw [if_neg h2] at hE
  refine zaa ?_
  refine zaw 4 (by kernel_rfl) ?_
  refine yF zap ?_
  refine yL underlying3 ?_
  refine yP zav ?_
  refine yM ?_
  refine yF zay ?_
  refine yL underlying9 ?_
  (first | refine yS ?_ | refine cS (fun n => 93 + 1000 * n) (hZ) func59 ?_)
  refine zac (zaz (c := false) (by simp [h2])) rfl rfl ?_
  refine yP zam ?_
  refine yA ?_
  refine zab ⟨by kernel_rfl, ?_⟩
  refine zae ?_
  refine zaf rfl ?_
  subst hE
  refine zaa ?_
  refine tx ?_
  refine yM ?_
  refine zac (zaz (s := ⟨#[116]⟩) (c := true) (by decide)) rfl rfl ?_
  refine yA ?_
  refine zab ?_
  refine zae ?_
  refine zat rfl ?_
  refine zaa ?_
  refine tx ?_
  refine yF zay ?_
  refine yL underlying9 ?_
  refine yV (fun n => 101 + 1000 * n) (hH) func55 ?_
  refine yA ?_
  refine zab ?_
  refine zah (zaR (zar ?_))
  refine yT ?_ ?_
  ·exact rfl
  ·exact trivial
 ·rw [if_pos (show seF ⟨6, t, n, a, b⟩ by simp [seF, isT, isN, isC]; omega)] at hE
  subst hE
  refine zaa (zaa ?_)
  refine tx ?_
  refine yF zay ?_
  refine yL underlying9 ?_
  refine zac (zau (c := false) (by simp [ht])) rfl rfl ?_
  refine yM ?_
  refine yS ?_
  refine yS ?_
  refine yP zai ?_
  refine yM ?_
  refine yF zaH ?_
  refine yL underlying3 ?_
  refine zac (zaM (c := false) (by simp [hn])) rfl rfl ?_
  refine yM ?_
  refine yS ?_
  refine yS ?_
  refine yP zai ?_
  refine yP zai ?_
  refine yM ?_
  refine yF zaX ?_
  refine lN underlying27 rfl sz27 rfl rfl ⟨rfl, trivial⟩ ?_
  refine yP (zaO pl27 zr27 rfl rfl) ?_
  refine zac (zaJ underlying27 rfl rfl (by kernel_rfl) (by kernel_rfl) (by kernel_rfl) (c := true) (by rw [zbo]; simp; omega)) rfl rfl ?_
  refine yM ?_
  refine yM ?_
  refine zac (zau (s := ⟨#[116]⟩) (c := true) (by decide)) rfl rfl ?_
  refine yP zam ?_
  refine yP zai ?_
  refine zab ?_
  refine zae ?_
  refine zat rfl ?_
  refine zaa ?_
  refine tx ?_
  refine yA ?_
  refine zab ?_
  refine zah (zar ?_)
  refine yT ?_ ?_
  ·exact rfl
  ·exact trivial
set_option maxHeartbeats 2000000 in
theorem refCheck7_s (t : ByteArray) (n a b : Int) (ok : SE.OK ⟨7, t, n, a, b⟩) : Fn prog 25 [.agg (SE.cells ⟨7, t, n, a, b⟩)] (.p (.v (.int .i64 (seE ⟨7, t, n, a, b⟩)))) [] := by
 obtain ⟨hz, hn0, hn1, ha0, ha1⟩ := ok
 dsimp only at hz hn0 hn1 ha0 ha1
 obtain ⟨E, hE⟩ : ∃ E, seE ⟨7, t, n, a, b⟩ = E := ⟨_, rfl⟩
 rw [hE]
 unfold seE at hE
 rw [if_neg (by dsimp only; decide)] at hE
 show Fn prog _ [.agg [.p (.v (.int .i64 7)), .p (.v (.string t)), .p (.v (.int .i64 n)), .p (.v (.int .u32 a)), .p (.v (.int .i64 b))]] _ _
 have hEn := refEnd_s t hz
 obtain ⟨ea, eb, hen⟩ := enR_e t
 rw [hen] at hEn
 refine zaq func25 rfl (Nat.le_of_ble_eq_true rfl) fun w0 A => ?_
 refine zaa ?_
 refine tx ?_
 refine zag (zaD (X := .agg _) 1 rfl) rfl rfl ⟨rfl, trivial⟩ ?_
 refine yA ?_
 refine zab ?_
 refine zaa (zaa ?_)
 refine tx ?_
 refine yF zap ?_
 refine yL underlying3 ?_
 refine yP za4 ?_
 refine yM ?_
 refine yF zap ?_
 refine yL underlying3 ?_
 refine yP zbD ?_
 refine yP zai ?_
 refine zab ?_
 refine zae ?_
 refine zaf rfl ?_
 refine zad (zaa ?_)
 refine tx ?_
 refine zag (xs := [.p (.v (.string ⟨#[]⟩)), .p (.v (.string ⟨#[116]⟩)), .p (.v (.string ⟨#[110]⟩)), .p (.v (.string ⟨#[]⟩)), .p (.v (.string ⟨#[116]⟩)), .p (.v (.string ⟨#[]⟩)), .p (.v (.string ⟨#[116]⟩)), .p (.v (.string ⟨#[116]⟩)), .p (.v (.string ⟨#[110]⟩)), .p (.v (.string ⟨#[]⟩)), .p (.v (.string ⟨#[99]⟩))]) (zaI (es := [.p (.v (.string ⟨#[]⟩)), .p (.v (.string ⟨#[116]⟩)), .p (.v (.string ⟨#[110]⟩)), .p (.v (.string ⟨#[]⟩)), .p (.v (.string ⟨#[116]⟩)), .p (.v (.string ⟨#[]⟩)), .p (.v (.string ⟨#[116]⟩)), .p (.v (.string ⟨#[116]⟩)), .p (.v (.string ⟨#[110]⟩)), .p (.v (.string ⟨#[]⟩)), .p (.v (.string ⟨#[99]⟩))]) (cs := [.v (.string ⟨#[]⟩), .v (.string ⟨#[116]⟩), .v (.string ⟨#[110]⟩), .v (.string ⟨#[]⟩), .v (.string ⟨#[116]⟩), .v (.string ⟨#[]⟩), .v (.string ⟨#[116]⟩), .v (.string ⟨#[116]⟩), .v (.string ⟨#[110]⟩), .v (.string ⟨#[]⟩), .v (.string ⟨#[99]⟩)]) 15 underlying89 sz9 zc9 (Nat.le_of_ble_eq_true rfl) (Nat.le_of_ble_eq_true rfl) rfl (by kernel_rfl) (by kernel_rfl) (by kernel_rfl) (Nat.le_of_ble_eq_true rfl)) (by first | rfl | kernel_rfl) rfl ⟨rfl, trivial⟩ ?_
 refine yF zap ?_
 refine yL underlying3 ?_
 refine zag (zaB underlying89 sz9 (by omega) (by omega) (show _ = 7 from rfl)) rfl rfl ⟨rfl, trivial⟩ ?_
 refine zag (zbq underlying9 rfl rfl) rfl rfl ⟨rfl, trivial⟩ ?_
 refine yA ?_
 refine zab ?_
 by_cases ht : t ≠ ⟨#[]⟩
 ·by_cases hn : n ≠ 0
  ·rw [if_pos (show seF ⟨7, t, n, a, b⟩ by simp [seF, isT, isN, isC, *])] at hE
   subst hE
   refine zaa (zaa ?_)
   refine tx ?_
   refine yF zay ?_
   refine yL underlying9 ?_
   refine zac (zau (c := true) (by simp [ht])) rfl rfl ?_
   refine yM ?_
   refine yM ?_
   refine zac (zau (s := ⟨#[116]⟩) (c := false) (by decide)) rfl rfl ?_
   refine yP zam ?_
   refine yM ?_
   refine yF zaH ?_
   refine yL underlying3 ?_
   refine zac (zaM (c := true) (by simpa using hn)) rfl rfl ?_
   refine yM ?_
   refine yM ?_
   refine zac (zau (s := ⟨#[116]⟩) (c := true) (by decide)) rfl rfl ?_
   refine yP zam ?_
   refine yP zai ?_
   refine yM ?_
   refine yS ?_
   refine yS ?_
   refine yS ?_
   refine yS ?_
   refine yS ?_
   refine yS ?_
   refine yS ?_
   refine yS ?_
   refine yP zam ?_
   refine zab ?_
   refine zae ?_
   refine zat rfl ?_
   refine zaa ?_
   refine tx ?_
   refine yA ?_
   refine zab ?_
   refine zah (zar ?_)
   refine yT ?_ ?_
   ·exact rfl
   ·exact trivial
  replace hn : n = 0 := Decidable.not_not.1 hn
  by_cases hq : a = 0 ∧ b = 0
  ·refine zaa (zaa ?_)
   refine tx ?_
   refine yF zay ?_
   refine yL underlying9 ?_
   refine zac (zau (c := true) (by simp [ht])) rfl rfl ?_
   refine yM ?_
   refine yM ?_
   refine zac (zau (s := ⟨#[116]⟩) (c := false) (by decide)) rfl rfl ?_
   refine yP zam ?_
   refine yM ?_
   refine yF zaH ?_
   refine yL underlying3 ?_
   refine zac (zaM (c := false) (by simp [hn])) rfl rfl ?_
   refine yM ?_
   refine yS ?_
   refine yS ?_
   refine yP zai ?_
   refine yP zai ?_
   refine yM ?_
   refine yF zaX ?_
   refine lN underlying27 rfl sz27 rfl rfl ⟨rfl, trivial⟩ ?_
   refine yP (zaO pl27 zr27 rfl rfl) ?_
   refine zac (zaJ underlying27 rfl rfl (by kernel_rfl) (by kernel_rfl) (by kernel_rfl) (c := false) (by rw [zbo]; simp [hq])) rfl rfl ?_
   refine yM ?_
   refine yS ?_
   refine yS ?_
   refine yP zai ?_
   refine yP zai ?_
   refine zab ?_
   refine zae ?_
   refine zaf rfl ?_
   rw [if_neg (show ¬ seF ⟨7, t, n, a, b⟩ by simp [seF, isT, isN, isC, *])] at hE
   rw [seV_7] at hE
   refine zad (zaa (zaj (zaa ?_)))
   refine tx ?_
   refine yM ?_
   refine zac (zaz (s := ⟨#[116]⟩) (c := false) (by decide)) rfl rfl ?_
   refine yM ?_
   refine yS ?_
   refine yS ?_
   refine yS ?_
   refine yS ?_
   refine yS ?_
   refine yS ?_
   refine yS ?_
   refine yS ?_
   refine yP zai ?_
   refine yA ?_
   refine zab ?_
   refine zae ?_
   refine zaf rfl ?_
   refine zaa ?_
   refine tx ?_
   refine yM ?_
   refine zac (zaz (s := ⟨#[116]⟩) (c := false) (by decide)) rfl rfl ?_
   refine yA ?_
   refine zab ?_
   refine zae ?_
   refine zaf rfl ?_
   refine zaa ?_
   refine tx ?_
   refine yF zap ?_
   refine yL underlying3 ?_
   refine yP zav ?_
   refine yA ?_
   refine zab ?_
   refine zae ?_
   refine zat rfl ?_
   subst hE
   refine zaa ?_
   refine tx ?_
   refine yF zay ?_
   refine yL underlying9 ?_
   refine yV (fun n => 72 + 1000 * n) (hEn) func58 ?_
   refine yP (zal (r := .tup _)) ?_
   refine yP (zak rfl) ?_
   refine yP (zak rfl) ?_
   refine yP (zak rfl) ?_
   refine yA ?_
   refine yA ?_
   refine yA ?_
   refine zab ?_
   refine zaa ?_
   refine tx ?_
   refine yM ?_
   refine yA ?_
   refine zab ?_
   refine zah (zaR (zar ?_))
   refine yT ?_ ?_
   ·exact rfl
   ·exact trivial
  ·rw [if_pos (show seF ⟨7, t, n, a, b⟩ by simp [seF, isT, isN, isC]; omega)] at hE
   subst hE
   refine zaa (zaa ?_)
   refine tx ?_
   refine yF zay ?_
   refine yL underlying9 ?_
   refine zac (zau (c := true) (by simp [ht])) rfl rfl ?_
   refine yM ?_
   refine yM ?_
   refine zac (zau (s := ⟨#[116]⟩) (c := false) (by decide)) rfl rfl ?_
   refine yP zam ?_
   refine yM ?_
   refine yF zaH ?_
   refine yL underlying3 ?_
   refine zac (zaM (c := false) (by simp [hn])) rfl rfl ?_
   refine yM ?_
   refine yS ?_
   refine yS ?_
   refine yP zai ?_
   refine yP zai ?_
   refine yM ?_
   refine yF zaX ?_
   refine lN underlying27 rfl sz27 rfl rfl ⟨rfl, trivial⟩ ?_
   refine yP (zaO pl27 zr27 rfl rfl) ?_
   refine zac (zaJ underlying27 rfl rfl (by kernel_rfl) (by kernel_rfl) (by kernel_rfl) (c := true) (by rw [zbo]; simp; omega)) rfl rfl ?_
   refine yM ?_
   refine yM ?_
   refine zac (zau (s := ⟨#[116]⟩) (c := true) (by decide)) rfl rfl ?_
   refine yP zam ?_
   refine yP zai ?_
   refine zab ?_
   refine zae ?_
   refine zat rfl ?_
   refine zaa ?_
   refine tx ?_
   refine yA ?_
   refine zab ?_
   refine zah (zar ?_)
   refine yT ?_ ?_
   ·exact rfl
   ·exact trivial
 replace ht : t = ⟨#[]⟩ := Decidable.not_not.1 ht
 by_cases hn : n ≠ 0
 ·rw [if_pos (show seF ⟨7, t, n, a, b⟩ by simp [seF, isT, isN, isC, *])] at hE
  subst hE
  refine zaa (zaa ?_)
  refine tx ?_
  refine yF zay ?_
  refine yL underlying9 ?_
  refine zac (zau (c := false) (by simp [ht])) rfl rfl ?_
  refine yM ?_
  refine yS ?_
  refine yS ?_
  refine yP zai ?_
  refine yM ?_
  refine yF zaH ?_
  refine yL underlying3 ?_
  refine zac (zaM (c := true) (by simpa using hn)) rfl rfl ?_
  refine yM ?_
  refine yM ?_
  refine zac (zau (s := ⟨#[116]⟩) (c := true) (by decide)) rfl rfl ?_
  refine yP zam ?_
  refine yP zai ?_
  refine yM ?_
  refine yS ?_
  refine yS ?_
  refine yS ?_
  refine yS ?_
  refine yS ?_
  refine yS ?_
  refine yS ?_
  refine yS ?_
  refine yP zam ?_
  refine zab ?_
  refine zae ?_
  refine zat rfl ?_
  refine zaa ?_
  refine tx ?_
  refine yA ?_
  refine zab ?_
  refine zah (zar ?_)
  refine yT ?_ ?_
  ·exact rfl
  ·exact trivial
 replace hn : n = 0 := Decidable.not_not.1 hn
 by_cases hq : a = 0 ∧ b = 0
 ·refine zaa (zaa ?_)
  refine tx ?_
  refine yF zay ?_
  refine yL underlying9 ?_
  refine zac (zau (c := false) (by simp [ht])) rfl rfl ?_
  refine yM ?_
  refine yS ?_
  refine yS ?_
  refine yP zai ?_
  refine yM ?_
  refine yF zaH ?_
  refine yL underlying3 ?_
  refine zac (zaM (c := false) (by simp [hn])) rfl rfl ?_
  refine yM ?_
  refine yS ?_
  refine yS ?_
  refine yP zai ?_
  refine yP zai ?_
  refine yM ?_
  refine yF zaX ?_
  refine lN underlying27 rfl sz27 rfl rfl ⟨rfl, trivial⟩ ?_
  refine yP (zaO pl27 zr27 rfl rfl) ?_
  refine zac (zaJ underlying27 rfl rfl (by kernel_rfl) (by kernel_rfl) (by kernel_rfl) (c := false) (by rw [zbo]; simp [hq])) rfl rfl ?_
  refine yM ?_
  refine yS ?_
  refine yS ?_
  refine yP zai ?_
  refine yP zai ?_
  refine zab ?_
  refine zae ?_
  refine zaf rfl ?_
  rw [if_neg (show ¬ seF ⟨7, t, n, a, b⟩ by simp [seF, isT, isN, isC, *])] at hE
  rw [seV_7] at hE
  refine zad (zaa (zaj (zaa ?_)))
  refine tx ?_
  refine yM ?_
  refine zac (zaz (s := ⟨#[116]⟩) (c := false) (by decide)) rfl rfl ?_
  refine yM ?_
  refine yS ?_
  refine yS ?_
  refine yS ?_
  refine yS ?_
  refine yS ?_
  refine yS ?_
  refine yS ?_
  refine yS ?_
  refine yP zai ?_
  refine yA ?_
  refine zab ?_
  refine zae ?_
  refine zaf rfl ?_
  refine zaa ?_
  refine tx ?_
  refine yM ?_
  refine zac (zaz (s := ⟨#[116]⟩) (c := false) (by decide)) rfl rfl ?_
  refine yA ?_
  refine zab ?_
  refine zae ?_
  refine zaf rfl ?_
  refine zaa ?_
  refine tx ?_
  refine yF zap ?_
  refine yL underlying3 ?_
  refine yP zav ?_
  refine yA ?_
  refine zab ?_
  refine zae ?_
  refine zat rfl ?_
  subst hE
  refine zaa ?_
  refine tx ?_
  refine yF zay ?_
  refine yL underlying9 ?_
  refine yV (fun n => 72 + 1000 * n) (hEn) func58 ?_
  refine yP (zal (r := .tup _)) ?_
  refine yP (zak rfl) ?_
  refine yP (zak rfl) ?_
  refine yP (zak rfl) ?_
  refine yA ?_
  refine yA ?_
  refine yA ?_
  refine zab ?_
  refine zaa ?_
  refine tx ?_
  refine yM ?_
  refine yA ?_
  refine zab ?_
  refine zah (zaR (zar ?_))
  refine yT ?_ ?_
  ·exact rfl
  ·exact trivial
 ·rw [if_pos (show seF ⟨7, t, n, a, b⟩ by simp [seF, isT, isN, isC]; omega)] at hE
  subst hE
  refine zaa (zaa ?_)
  refine tx ?_
  refine yF zay ?_
  refine yL underlying9 ?_
  refine zac (zau (c := false) (by simp [ht])) rfl rfl ?_
  refine yM ?_
  refine yS ?_
  refine yS ?_
  refine yP zai ?_
  refine yM ?_
  refine yF zaH ?_
  refine yL underlying3 ?_
  refine zac (zaM (c := false) (by simp [hn])) rfl rfl ?_
  refine yM ?_
  refine yS ?_
  refine yS ?_
  refine yP zai ?_
  refine yP zai ?_
  refine yM ?_
  refine yF zaX ?_
  refine lN underlying27 rfl sz27 rfl rfl ⟨rfl, trivial⟩ ?_
  refine yP (zaO pl27 zr27 rfl rfl) ?_
  refine zac (zaJ underlying27 rfl rfl (by kernel_rfl) (by kernel_rfl) (by kernel_rfl) (c := true) (by rw [zbo]; simp; omega)) rfl rfl ?_
  refine yM ?_
  refine yM ?_
  refine zac (zau (s := ⟨#[116]⟩) (c := true) (by decide)) rfl rfl ?_
  refine yP zam ?_
  refine yP zai ?_
  refine zab ?_
  refine zae ?_
  refine zat rfl ?_
  refine zaa ?_
  refine tx ?_
  refine yA ?_
  refine zab ?_
  refine zah (zar ?_)
  refine yT ?_ ?_
  ·exact rfl
  ·exact trivial
set_option maxHeartbeats 2000000 in
theorem refCheck8_s (t : ByteArray) (n a b : Int) (ok : SE.OK ⟨8, t, n, a, b⟩) : Fn prog 25 [.agg (SE.cells ⟨8, t, n, a, b⟩)] (.p (.v (.int .i64 (seE ⟨8, t, n, a, b⟩)))) [] := by
 obtain ⟨hz, hn0, hn1, ha0, ha1⟩ := ok
 dsimp only at hz hn0 hn1 ha0 ha1
 obtain ⟨E, hE⟩ : ∃ E, seE ⟨8, t, n, a, b⟩ = E := ⟨_, rfl⟩
 rw [hE]
 unfold seE at hE
 rw [if_neg (by dsimp only; decide)] at hE
 show Fn prog _ [.agg [.p (.v (.int .i64 8)), .p (.v (.string t)), .p (.v (.int .i64 n)), .p (.v (.int .u32 a)), .p (.v (.int .i64 b))]] _ _
 refine zaq func25 rfl (Nat.le_of_ble_eq_true rfl) fun w0 A => ?_
 refine zaa ?_
 refine tx ?_
 refine zag (zaD (X := .agg _) 1 rfl) rfl rfl ⟨rfl, trivial⟩ ?_
 refine yA ?_
 refine zab ?_
 refine zaa (zaa ?_)
 refine tx ?_
 refine yF zap ?_
 refine yL underlying3 ?_
 refine yP za4 ?_
 refine yM ?_
 refine yF zap ?_
 refine yL underlying3 ?_
 refine yP zbD ?_
 refine yP zai ?_
 refine zab ?_
 refine zae ?_
 refine zaf rfl ?_
 refine zad (zaa ?_)
 refine tx ?_
 refine zag (xs := [.p (.v (.string ⟨#[]⟩)), .p (.v (.string ⟨#[116]⟩)), .p (.v (.string ⟨#[110]⟩)), .p (.v (.string ⟨#[]⟩)), .p (.v (.string ⟨#[116]⟩)), .p (.v (.string ⟨#[]⟩)), .p (.v (.string ⟨#[116]⟩)), .p (.v (.string ⟨#[116]⟩)), .p (.v (.string ⟨#[110]⟩)), .p (.v (.string ⟨#[]⟩)), .p (.v (.string ⟨#[99]⟩))]) (zaI (es := [.p (.v (.string ⟨#[]⟩)), .p (.v (.string ⟨#[116]⟩)), .p (.v (.string ⟨#[110]⟩)), .p (.v (.string ⟨#[]⟩)), .p (.v (.string ⟨#[116]⟩)), .p (.v (.string ⟨#[]⟩)), .p (.v (.string ⟨#[116]⟩)), .p (.v (.string ⟨#[116]⟩)), .p (.v (.string ⟨#[110]⟩)), .p (.v (.string ⟨#[]⟩)), .p (.v (.string ⟨#[99]⟩))]) (cs := [.v (.string ⟨#[]⟩), .v (.string ⟨#[116]⟩), .v (.string ⟨#[110]⟩), .v (.string ⟨#[]⟩), .v (.string ⟨#[116]⟩), .v (.string ⟨#[]⟩), .v (.string ⟨#[116]⟩), .v (.string ⟨#[116]⟩), .v (.string ⟨#[110]⟩), .v (.string ⟨#[]⟩), .v (.string ⟨#[99]⟩)]) 15 underlying89 sz9 zc9 (Nat.le_of_ble_eq_true rfl) (Nat.le_of_ble_eq_true rfl) rfl (by kernel_rfl) (by kernel_rfl) (by kernel_rfl) (Nat.le_of_ble_eq_true rfl)) (by first | rfl | kernel_rfl) rfl ⟨rfl, trivial⟩ ?_
 refine yF zap ?_
 refine yL underlying3 ?_
 refine zag (zaB underlying89 sz9 (by omega) (by omega) (show _ = 8 from rfl)) rfl rfl ⟨rfl, trivial⟩ ?_
 refine zag (zbq underlying9 rfl rfl) rfl rfl ⟨rfl, trivial⟩ ?_
 refine yA ?_
 refine zab ?_
 by_cases ht : t ≠ ⟨#[]⟩
 ·rw [if_pos (show seF ⟨8, t, n, a, b⟩ by simp [seF, isT, isN, isC, *])] at hE
  subst hE
  refine zaa (zaa ?_)
  refine tx ?_
  refine yF zay ?_
  refine yL underlying9 ?_
  refine zac (zau (c := true) (by simp [ht])) rfl rfl ?_
  refine yM ?_
  refine yM ?_
  refine zac (zau (s := ⟨#[110]⟩) (c := true) (by decide)) rfl rfl ?_
  refine yP zam ?_
  refine yM ?_
  refine yS ?_
  refine yS ?_
  refine yS ?_
  refine yS ?_
  refine yS ?_
  refine yS ?_
  refine yS ?_
  refine yP zam ?_
  refine yM ?_
  refine yS ?_
  refine yS ?_
  refine yS ?_
  refine yS ?_
  refine yS ?_
  refine yS ?_
  refine yS ?_
  refine yS ?_
  refine yP zam ?_
  refine zab ?_
  refine zae ?_
  refine zat rfl ?_
  refine zaa ?_
  refine tx ?_
  refine yA ?_
  refine zab ?_
  refine zah (zar ?_)
  refine yT ?_ ?_
  ·exact rfl
  ·exact trivial
 replace ht : t = ⟨#[]⟩ := Decidable.not_not.1 ht
 by_cases hn : n ≠ 0
 ·by_cases hq : a = 0 ∧ b = 0
  ·refine zaa (zaa ?_)
   refine tx ?_
   refine yF zay ?_
   refine yL underlying9 ?_
   refine zac (zau (c := false) (by simp [ht])) rfl rfl ?_
   refine yM ?_
   refine yS ?_
   refine yS ?_
   refine yP zai ?_
   refine yM ?_
   refine yF zaH ?_
   refine yL underlying3 ?_
   refine zac (zaM (c := true) (by simpa using hn)) rfl rfl ?_
   refine yM ?_
   refine yM ?_
   refine zac (zau (s := ⟨#[110]⟩) (c := false) (by decide)) rfl rfl ?_
   refine yP zam ?_
   refine yP zai ?_
   refine yM ?_
   refine yF zaX ?_
   refine lN underlying27 rfl sz27 rfl rfl ⟨rfl, trivial⟩ ?_
   refine yP (zaO pl27 zr27 rfl rfl) ?_
   refine zac (zaJ underlying27 rfl rfl (by kernel_rfl) (by kernel_rfl) (by kernel_rfl) (c := false) (by rw [zbo]; simp [hq])) rfl rfl ?_
   refine yM ?_
   refine yS ?_
   refine yS ?_
   refine yP zai ?_
   refine yP zai ?_
   refine zab ?_
   refine zae ?_
   refine zaf rfl ?_
   rw [if_neg (show ¬ seF ⟨8, t, n, a, b⟩ by simp [seF, isT, isN, isC, *])] at hE
   rw [seV_8] at hE
   by_cases hl : n < 0
   ·rw [if_pos (.inl hl)] at hE
    subst hE
    refine zad (zaa (zaj (zaa ?_)))
    refine tx ?_
    refine yM ?_
    refine zac (zaz (s := ⟨#[110]⟩) (c := true) (by decide)) rfl rfl ?_
    refine yM ?_
    refine yF zaH ?_
    refine yL underlying3 ?_
    refine zac (za7 (c := true) (by simpa using hl)) rfl rfl ?_
    refine yM ?_
    refine yS ?_
    refine yS ?_
    refine yS ?_
    refine yP zam ?_
    refine yP zam ?_
    refine yA ?_
    refine zab ?_
    refine zae ?_
    refine zat rfl ?_
    refine zaa ?_
    refine tx ?_
    refine yA ?_
    refine zab ?_
    refine zah (zaR (zar ?_))
    refine yT ?_ ?_
    ·exact rfl
    ·exact trivial
   refine zad (zaa (zaj (zaa ?_)))
   refine tx ?_
   refine yM ?_
   refine zac (zaz (s := ⟨#[110]⟩) (c := true) (by decide)) rfl rfl ?_
   refine yM ?_
   refine yF zaH ?_
   refine yL underlying3 ?_
   refine zac (za7 (c := false) (by simp; omega)) rfl rfl ?_
   refine yM ?_
   refine yF zaH ?_
   refine yL underlying3 ?_
   refine yP zbD ?_
   refine yP zai ?_
   refine yP zam ?_
   refine yA ?_
   refine zab ?_
   refine zae ?_
   refine zan _ rfl (fun h => ?_) (fun h => ?_)
   ·have h1 : 65535 < n := by simpa using h
    rw [if_pos (.inr h1)] at hE
    subst hE
    refine zaa ?_
    refine tx ?_
    refine yA ?_
    refine zab ?_
    refine zah (zaR (zar ?_))
    refine yT ?_ ?_
    ·exact rfl
    ·exact trivial
   have h1 : ¬ 65535 < n := by simpa using h
   clear h
   rw [if_neg (by omega)] at hE
   subst hE
   refine zaa ?_
   refine tx ?_
   refine yM ?_
   refine zac (zaz (s := ⟨#[110]⟩) (c := false) (by decide)) rfl rfl ?_
   refine yA ?_
   refine zab ?_
   refine zae ?_
   refine zaf rfl ?_
   refine zaa ?_
   refine tx ?_
   refine yF zap ?_
   refine yL underlying3 ?_
   refine yP zav ?_
   refine yA ?_
   refine zab ?_
   refine zae ?_
   refine zaf rfl ?_
   refine zaa ?_
   refine tx ?_
   refine yF zap ?_
   refine yL underlying3 ?_
   refine yP zav ?_
   refine yM ?_
   refine yS ?_
   refine yS ?_
   refine yS ?_
   refine yP zai ?_
   refine yA ?_
   refine zab ?_
   refine zae ?_
   refine zaf rfl ?_
   refine zaa ?_
   refine zaw 4 (by kernel_rfl) ?_
   refine yF zap ?_
   refine yL underlying3 ?_
   refine yP zav ?_
   refine yM ?_
   refine yS ?_
   refine yS ?_
   refine yS ?_
   refine yS ?_
   refine yP zai ?_
   refine yA ?_
   refine zab ⟨by kernel_rfl, ?_⟩
   refine zae ?_
   refine zaf rfl ?_
   refine zaa ?_
   refine tx ?_
   refine yM ?_
   refine zac (zaz (s := ⟨#[110]⟩) (c := false) (by decide)) rfl rfl ?_
   refine yA ?_
   refine zab ?_
   refine zae ?_
   refine zaf rfl ?_
   refine zad (zaa ?_)
   refine tx ?_
   refine yA ?_
   refine zab ?_
   refine zah ?_
   refine yT ?_ ?_
   ·exact rfl
   ·exact trivial
  ·rw [if_pos (show seF ⟨8, t, n, a, b⟩ by simp [seF, isT, isN, isC]; omega)] at hE
   subst hE
   refine zaa (zaa ?_)
   refine tx ?_
   refine yF zay ?_
   refine yL underlying9 ?_
   refine zac (zau (c := false) (by simp [ht])) rfl rfl ?_
   refine yM ?_
   refine yS ?_
   refine yS ?_
   refine yP zai ?_
   refine yM ?_
   refine yF zaH ?_
   refine yL underlying3 ?_
   refine zac (zaM (c := true) (by simpa using hn)) rfl rfl ?_
   refine yM ?_
   refine yM ?_
   refine zac (zau (s := ⟨#[110]⟩) (c := false) (by decide)) rfl rfl ?_
   refine yP zam ?_
   refine yP zai ?_
   refine yM ?_
   refine yF zaX ?_
   refine lN underlying27 rfl sz27 rfl rfl ⟨rfl, trivial⟩ ?_
   refine yP (zaO pl27 zr27 rfl rfl) ?_
   refine zac (zaJ underlying27 rfl rfl (by kernel_rfl) (by kernel_rfl) (by kernel_rfl) (c := true) (by rw [zbo]; simp; omega)) rfl rfl ?_
   refine yM ?_
   refine yM ?_
   refine zac (zau (s := ⟨#[110]⟩) (c := true) (by decide)) rfl rfl ?_
   refine yP zam ?_
   refine yP zai ?_
   refine zab ?_
   refine zae ?_
   refine zat rfl ?_
   refine zaa ?_
   refine tx ?_
   refine yA ?_
   refine zab ?_
   refine zah (zar ?_)
   refine yT ?_ ?_
   ·exact rfl
   ·exact trivial
 replace hn : n = 0 := Decidable.not_not.1 hn
 by_cases hq : a = 0 ∧ b = 0
 ·refine zaa (zaa ?_)
  refine tx ?_
  refine yF zay ?_
  refine yL underlying9 ?_
  refine zac (zau (c := false) (by simp [ht])) rfl rfl ?_
  refine yM ?_
  refine yS ?_
  refine yS ?_
  refine yP zai ?_
  refine yM ?_
  refine yF zaH ?_
  refine yL underlying3 ?_
  refine zac (zaM (c := false) (by simp [hn])) rfl rfl ?_
  refine yM ?_
  refine yS ?_
  refine yS ?_
  refine yP zai ?_
  refine yP zai ?_
  refine yM ?_
  refine yF zaX ?_
  refine lN underlying27 rfl sz27 rfl rfl ⟨rfl, trivial⟩ ?_
  refine yP (zaO pl27 zr27 rfl rfl) ?_
  refine zac (zaJ underlying27 rfl rfl (by kernel_rfl) (by kernel_rfl) (by kernel_rfl) (c := false) (by rw [zbo]; simp [hq])) rfl rfl ?_
  refine yM ?_
  refine yS ?_
  refine yS ?_
  refine yP zai ?_
  refine yP zai ?_
  refine zab ?_
  refine zae ?_
  refine zaf rfl ?_
  rw [if_neg (show ¬ seF ⟨8, t, n, a, b⟩ by simp [seF, isT, isN, isC, *])] at hE
  rw [seV_8] at hE
  by_cases hl : n < 0
  ·rw [if_pos (.inl hl)] at hE
   subst hE
   refine zad (zaa (zaj (zaa ?_)))
   refine tx ?_
   refine yM ?_
   refine zac (zaz (s := ⟨#[110]⟩) (c := true) (by decide)) rfl rfl ?_
   refine yM ?_
   refine yF zaH ?_
   refine yL underlying3 ?_
   refine zac (za7 (c := true) (by simpa using hl)) rfl rfl ?_
   refine yM ?_
   refine yS ?_
   refine yS ?_
   refine yS ?_
   refine yP zam ?_
   refine yP zam ?_
   refine yA ?_
   refine zab ?_
   refine zae ?_
   refine zat rfl ?_
   refine zaa ?_
   refine tx ?_
   refine yA ?_
   refine zab ?_
   refine zah (zaR (zar ?_))
   refine yT ?_ ?_
   ·exact rfl
   ·exact trivial
  refine zad (zaa (zaj (zaa ?_)))
  refine tx ?_
  refine yM ?_
  refine zac (zaz (s := ⟨#[110]⟩) (c := true) (by decide)) rfl rfl ?_
  refine yM ?_
  refine yF zaH ?_
  refine yL underlying3 ?_
  refine zac (za7 (c := false) (by simp; omega)) rfl rfl ?_
  refine yM ?_
  refine yF zaH ?_
  refine yL underlying3 ?_
  refine yP zbD ?_
  refine yP zai ?_
  refine yP zam ?_
  refine yA ?_
  refine zab ?_
  refine zae ?_
  refine zan _ rfl (fun h => ?_) (fun h => ?_)
  ·have h1 : 65535 < n := by simpa using h
   rw [if_pos (.inr h1)] at hE
   subst hE
   refine zaa ?_
   refine tx ?_
   refine yA ?_
   refine zab ?_
   refine zah (zaR (zar ?_))
   refine yT ?_ ?_
   ·exact rfl
   ·exact trivial
  have h1 : ¬ 65535 < n := by simpa using h
  clear h
  rw [if_neg (by omega)] at hE
  subst hE
  refine zaa ?_
  refine tx ?_
  refine yM ?_
  refine zac (zaz (s := ⟨#[110]⟩) (c := false) (by decide)) rfl rfl ?_
  refine yA ?_
  refine zab ?_
  refine zae ?_
  refine zaf rfl ?_
  refine zaa ?_
  refine tx ?_
  refine yF zap ?_
  refine yL underlying3 ?_
  refine yP zav ?_
  refine yA ?_
  refine zab ?_
  refine zae ?_
  refine zaf rfl ?_
  refine zaa ?_
  refine tx ?_
  refine yF zap ?_
  refine yL underlying3 ?_
  refine yP zav ?_
  refine yM ?_
  refine yS ?_
  refine yS ?_
  refine yS ?_
  refine yP zai ?_
  refine yA ?_
  refine zab ?_
  refine zae ?_
  refine zaf rfl ?_
  refine zaa ?_
  refine zaw 4 (by kernel_rfl) ?_
  refine yF zap ?_
  refine yL underlying3 ?_
  refine yP zav ?_
  refine yM ?_
  refine yS ?_
  refine yS ?_
  refine yS ?_
  refine yS ?_
  refine yP zai ?_
  refine yA ?_
  refine zab ⟨by kernel_rfl, ?_⟩
  refine zae ?_
  refine zaf rfl ?_
  refine zaa ?_
  refine tx ?_
  refine yM ?_
  refine zac (zaz (s := ⟨#[110]⟩) (c := false) (by decide)) rfl rfl ?_
  refine yA ?_
  refine zab ?_
  refine zae ?_
  refine zaf rfl ?_
  refine zad (zaa ?_)
  refine tx ?_
  refine yA ?_
  refine zab ?_
  refine zah ?_
  refine yT ?_ ?_
  ·exact rfl
  ·exact trivial
 ·rw [if_pos (show seF ⟨8, t, n, a, b⟩ by simp [seF, isT, isN, isC]; omega)] at hE
  subst hE
  refine zaa (zaa ?_)
  refine tx ?_
  refine yF zay ?_
  refine yL underlying9 ?_
  refine zac (zau (c := false) (by simp [ht])) rfl rfl ?_
  refine yM ?_
  refine yS ?_
  refine yS ?_
  refine yP zai ?_
  refine yM ?_
  refine yF zaH ?_
  refine yL underlying3 ?_
  refine zac (zaM (c := false) (by simp [hn])) rfl rfl ?_
  refine yM ?_
  refine yS ?_
  refine yS ?_
  refine yP zai ?_
  refine yP zai ?_
  refine yM ?_
  refine yF zaX ?_
  refine lN underlying27 rfl sz27 rfl rfl ⟨rfl, trivial⟩ ?_
  refine yP (zaO pl27 zr27 rfl rfl) ?_
  refine zac (zaJ underlying27 rfl rfl (by kernel_rfl) (by kernel_rfl) (by kernel_rfl) (c := true) (by rw [zbo]; simp; omega)) rfl rfl ?_
  refine yM ?_
  refine yM ?_
  refine zac (zau (s := ⟨#[110]⟩) (c := true) (by decide)) rfl rfl ?_
  refine yP zam ?_
  refine yP zai ?_
  refine zab ?_
  refine zae ?_
  refine zat rfl ?_
  refine zaa ?_
  refine tx ?_
  refine yA ?_
  refine zab ?_
  refine zah (zar ?_)
  refine yT ?_ ?_
  ·exact rfl
  ·exact trivial
set_option maxHeartbeats 2000000 in
theorem refCheck9_s (t : ByteArray) (n a b : Int) (ok : SE.OK ⟨9, t, n, a, b⟩) : Fn prog 25 [.agg (SE.cells ⟨9, t, n, a, b⟩)] (.p (.v (.int .i64 (seE ⟨9, t, n, a, b⟩)))) [] := by
 obtain ⟨hz, hn0, hn1, ha0, ha1⟩ := ok
 dsimp only at hz hn0 hn1 ha0 ha1
 obtain ⟨E, hE⟩ : ∃ E, seE ⟨9, t, n, a, b⟩ = E := ⟨_, rfl⟩
 rw [hE]
 unfold seE at hE
 rw [if_neg (by dsimp only; decide)] at hE
 show Fn prog _ [.agg [.p (.v (.int .i64 9)), .p (.v (.string t)), .p (.v (.int .i64 n)), .p (.v (.int .u32 a)), .p (.v (.int .i64 b))]] _ _
 refine zaq func25 rfl (Nat.le_of_ble_eq_true rfl) fun w0 A => ?_
 refine zaa ?_
 refine tx ?_
 refine zag (zaD (X := .agg _) 1 rfl) rfl rfl ⟨rfl, trivial⟩ ?_
 refine yA ?_
 refine zab ?_
 refine zaa (zaa ?_)
 refine tx ?_
 refine yF zap ?_
 refine yL underlying3 ?_
 refine yP za4 ?_
 refine yM ?_
 refine yF zap ?_
 refine yL underlying3 ?_
 refine yP zbD ?_
 refine yP zai ?_
 refine zab ?_
 refine zae ?_
 refine zaf rfl ?_
 refine zad (zaa ?_)
 refine tx ?_
 refine zag (xs := [.p (.v (.string ⟨#[]⟩)), .p (.v (.string ⟨#[116]⟩)), .p (.v (.string ⟨#[110]⟩)), .p (.v (.string ⟨#[]⟩)), .p (.v (.string ⟨#[116]⟩)), .p (.v (.string ⟨#[]⟩)), .p (.v (.string ⟨#[116]⟩)), .p (.v (.string ⟨#[116]⟩)), .p (.v (.string ⟨#[110]⟩)), .p (.v (.string ⟨#[]⟩)), .p (.v (.string ⟨#[99]⟩))]) (zaI (es := [.p (.v (.string ⟨#[]⟩)), .p (.v (.string ⟨#[116]⟩)), .p (.v (.string ⟨#[110]⟩)), .p (.v (.string ⟨#[]⟩)), .p (.v (.string ⟨#[116]⟩)), .p (.v (.string ⟨#[]⟩)), .p (.v (.string ⟨#[116]⟩)), .p (.v (.string ⟨#[116]⟩)), .p (.v (.string ⟨#[110]⟩)), .p (.v (.string ⟨#[]⟩)), .p (.v (.string ⟨#[99]⟩))]) (cs := [.v (.string ⟨#[]⟩), .v (.string ⟨#[116]⟩), .v (.string ⟨#[110]⟩), .v (.string ⟨#[]⟩), .v (.string ⟨#[116]⟩), .v (.string ⟨#[]⟩), .v (.string ⟨#[116]⟩), .v (.string ⟨#[116]⟩), .v (.string ⟨#[110]⟩), .v (.string ⟨#[]⟩), .v (.string ⟨#[99]⟩)]) 15 underlying89 sz9 zc9 (Nat.le_of_ble_eq_true rfl) (Nat.le_of_ble_eq_true rfl) rfl (by kernel_rfl) (by kernel_rfl) (by kernel_rfl) (Nat.le_of_ble_eq_true rfl)) (by first | rfl | kernel_rfl) rfl ⟨rfl, trivial⟩ ?_
 refine yF zap ?_
 refine yL underlying3 ?_
 refine zag (zaB underlying89 sz9 (by omega) (by omega) (show _ = 9 from rfl)) rfl rfl ⟨rfl, trivial⟩ ?_
 refine zag (zbq underlying9 rfl rfl) rfl rfl ⟨rfl, trivial⟩ ?_
 refine yA ?_
 refine zab ?_
 by_cases ht : t ≠ ⟨#[]⟩
 ·rw [if_pos (show seF ⟨9, t, n, a, b⟩ by simp [seF, isT, isN, isC, *])] at hE
  subst hE
  refine zaa (zaa ?_)
  refine tx ?_
  refine yF zay ?_
  refine yL underlying9 ?_
  refine zac (zau (c := true) (by simp [ht])) rfl rfl ?_
  refine yM ?_
  refine yM ?_
  refine zac (zau (s := ⟨#[]⟩) (c := true) (by decide)) rfl rfl ?_
  refine yP zam ?_
  refine yM ?_
  refine yS ?_
  refine yS ?_
  refine yS ?_
  refine yS ?_
  refine yS ?_
  refine yS ?_
  refine yS ?_
  refine yP zam ?_
  refine yM ?_
  refine yS ?_
  refine yS ?_
  refine yS ?_
  refine yS ?_
  refine yS ?_
  refine yS ?_
  refine yS ?_
  refine yS ?_
  refine yP zam ?_
  refine zab ?_
  refine zae ?_
  refine zat rfl ?_
  refine zaa ?_
  refine tx ?_
  refine yA ?_
  refine zab ?_
  refine zah (zar ?_)
  refine yT ?_ ?_
  ·exact rfl
  ·exact trivial
 replace ht : t = ⟨#[]⟩ := Decidable.not_not.1 ht
 by_cases hn : n ≠ 0
 ·rw [if_pos (show seF ⟨9, t, n, a, b⟩ by simp [seF, isT, isN, isC, *])] at hE
  subst hE
  refine zaa (zaa ?_)
  refine tx ?_
  refine yF zay ?_
  refine yL underlying9 ?_
  refine zac (zau (c := false) (by simp [ht])) rfl rfl ?_
  refine yM ?_
  refine yS ?_
  refine yS ?_
  refine yP zai ?_
  refine yM ?_
  refine yF zaH ?_
  refine yL underlying3 ?_
  refine zac (zaM (c := true) (by simpa using hn)) rfl rfl ?_
  refine yM ?_
  refine yM ?_
  refine zac (zau (s := ⟨#[]⟩) (c := true) (by decide)) rfl rfl ?_
  refine yP zam ?_
  refine yP zai ?_
  refine yM ?_
  refine yS ?_
  refine yS ?_
  refine yS ?_
  refine yS ?_
  refine yS ?_
  refine yS ?_
  refine yS ?_
  refine yS ?_
  refine yP zam ?_
  refine zab ?_
  refine zae ?_
  refine zat rfl ?_
  refine zaa ?_
  refine tx ?_
  refine yA ?_
  refine zab ?_
  refine zah (zar ?_)
  refine yT ?_ ?_
  ·exact rfl
  ·exact trivial
 replace hn : n = 0 := Decidable.not_not.1 hn
 by_cases hq : a = 0 ∧ b = 0
 ·refine zaa (zaa ?_)
  refine tx ?_
  refine yF zay ?_
  refine yL underlying9 ?_
  refine zac (zau (c := false) (by simp [ht])) rfl rfl ?_
  refine yM ?_
  refine yS ?_
  refine yS ?_
  refine yP zai ?_
  refine yM ?_
  refine yF zaH ?_
  refine yL underlying3 ?_
  refine zac (zaM (c := false) (by simp [hn])) rfl rfl ?_
  refine yM ?_
  refine yS ?_
  refine yS ?_
  refine yP zai ?_
  refine yP zai ?_
  refine yM ?_
  refine yF zaX ?_
  refine lN underlying27 rfl sz27 rfl rfl ⟨rfl, trivial⟩ ?_
  refine yP (zaO pl27 zr27 rfl rfl) ?_
  refine zac (zaJ underlying27 rfl rfl (by kernel_rfl) (by kernel_rfl) (by kernel_rfl) (c := false) (by rw [zbo]; simp [hq])) rfl rfl ?_
  refine yM ?_
  refine yS ?_
  refine yS ?_
  refine yP zai ?_
  refine yP zai ?_
  refine zab ?_
  refine zae ?_
  refine zaf rfl ?_
  rw [if_neg (show ¬ seF ⟨9, t, n, a, b⟩ by simp [seF, isT, isN, isC, *])] at hE
  rw [seV_9] at hE
  refine zad (zaa (zaj (zaa ?_)))
  refine tx ?_
  refine yM ?_
  refine zac (zaz (s := ⟨#[]⟩) (c := false) (by decide)) rfl rfl ?_
  refine yM ?_
  refine yS ?_
  refine yS ?_
  refine yS ?_
  refine yS ?_
  refine yS ?_
  refine yS ?_
  refine yS ?_
  refine yS ?_
  refine yP zai ?_
  refine yA ?_
  refine zab ?_
  refine zae ?_
  refine zaf rfl ?_
  refine zaa ?_
  refine tx ?_
  refine yM ?_
  refine zac (zaz (s := ⟨#[]⟩) (c := false) (by decide)) rfl rfl ?_
  refine yA ?_
  refine zab ?_
  refine zae ?_
  refine zaf rfl ?_
  refine zaa ?_
  refine tx ?_
  refine yF zap ?_
  refine yL underlying3 ?_
  refine yP zav ?_
  refine yA ?_
  refine zab ?_
  refine zae ?_
  refine zaf rfl ?_
  refine zaa ?_
  refine tx ?_
  refine yF zap ?_
  refine yL underlying3 ?_
  refine yP zav ?_
  refine yM ?_
  refine yS ?_
  refine yS ?_
  refine yS ?_
  refine yP zai ?_
  refine yA ?_
  refine zab ?_
  refine zae ?_
  refine zaf rfl ?_
  refine zaa ?_
  refine zaw 4 (by kernel_rfl) ?_
  refine yF zap ?_
  refine yL underlying3 ?_
  refine yP zav ?_
  refine yM ?_
  refine yS ?_
  refine yS ?_
  refine yS ?_
  refine yS ?_
  refine yP zai ?_
  refine yA ?_
  refine zab ⟨by kernel_rfl, ?_⟩
  refine zae ?_
  refine zaf rfl ?_
  subst hE
  refine zaa ?_
  refine tx ?_
  refine yM ?_
  refine zac (zaz (s := ⟨#[]⟩) (c := false) (by decide)) rfl rfl ?_
  refine yA ?_
  refine zab ?_
  refine zae ?_
  refine zaf rfl ?_
  refine zad (zaa ?_)
  refine tx ?_
  refine yA ?_
  refine zab ?_
  refine zah ?_
  refine yT ?_ ?_
  ·exact rfl
  ·exact trivial
 ·rw [if_pos (show seF ⟨9, t, n, a, b⟩ by simp [seF, isT, isN, isC]; omega)] at hE
  subst hE
  refine zaa (zaa ?_)
  refine tx ?_
  refine yF zay ?_
  refine yL underlying9 ?_
  refine zac (zau (c := false) (by simp [ht])) rfl rfl ?_
  refine yM ?_
  refine yS ?_
  refine yS ?_
  refine yP zai ?_
  refine yM ?_
  refine yF zaH ?_
  refine yL underlying3 ?_
  refine zac (zaM (c := false) (by simp [hn])) rfl rfl ?_
  refine yM ?_
  refine yS ?_
  refine yS ?_
  refine yP zai ?_
  refine yP zai ?_
  refine yM ?_
  refine yF zaX ?_
  refine lN underlying27 rfl sz27 rfl rfl ⟨rfl, trivial⟩ ?_
  refine yP (zaO pl27 zr27 rfl rfl) ?_
  refine zac (zaJ underlying27 rfl rfl (by kernel_rfl) (by kernel_rfl) (by kernel_rfl) (c := true) (by rw [zbo]; simp; omega)) rfl rfl ?_
  refine yM ?_
  refine yM ?_
  refine zac (zau (s := ⟨#[]⟩) (c := true) (by decide)) rfl rfl ?_
  refine yP zam ?_
  refine yP zai ?_
  refine zab ?_
  refine zae ?_
  refine zat rfl ?_
  refine zaa ?_
  refine tx ?_
  refine yA ?_
  refine zab ?_
  refine zah (zar ?_)
  refine yT ?_ ?_
  ·exact rfl
  ·exact trivial
set_option maxHeartbeats 2000000 in
theorem refCheck10_s (t : ByteArray) (n a b : Int) (ok : SE.OK ⟨10, t, n, a, b⟩) : Fn prog 25 [.agg (SE.cells ⟨10, t, n, a, b⟩)] (.p (.v (.int .i64 (seE ⟨10, t, n, a, b⟩)))) [] := by
 obtain ⟨hz, hn0, hn1, ha0, ha1⟩ := ok
 dsimp only at hz hn0 hn1 ha0 ha1
 obtain ⟨E, hE⟩ : ∃ E, seE ⟨10, t, n, a, b⟩ = E := ⟨_, rfl⟩
 rw [hE]
 unfold seE at hE
 rw [if_neg (by dsimp only; decide)] at hE
 show Fn prog _ [.agg [.p (.v (.int .i64 10)), .p (.v (.string t)), .p (.v (.int .i64 n)), .p (.v (.int .u32 a)), .p (.v (.int .i64 b))]] _ _
 have hC := nrFault_s a b ha0 ha1
 change Fn prog _ [.agg [.p (.v (.int .u32 a)), .p (.v (.int .i64 b))]] _ _ at hC
 refine zaq func25 rfl (Nat.le_of_ble_eq_true rfl) fun w0 A => ?_
 refine zaa ?_
 refine tx ?_
 refine zag (zaD (X := .agg _) 1 rfl) rfl rfl ⟨rfl, trivial⟩ ?_
 refine yA ?_
 refine zab ?_
 refine zaa (zaa ?_)
 refine tx ?_
 refine yF zap ?_
 refine yL underlying3 ?_
 refine yP za4 ?_
 refine yM ?_
 refine yF zap ?_
 refine yL underlying3 ?_
 refine yP zbD ?_
 refine yP zai ?_
 refine zab ?_
 refine zae ?_
 refine zaf rfl ?_
 refine zad (zaa ?_)
 refine tx ?_
 refine zag (xs := [.p (.v (.string ⟨#[]⟩)), .p (.v (.string ⟨#[116]⟩)), .p (.v (.string ⟨#[110]⟩)), .p (.v (.string ⟨#[]⟩)), .p (.v (.string ⟨#[116]⟩)), .p (.v (.string ⟨#[]⟩)), .p (.v (.string ⟨#[116]⟩)), .p (.v (.string ⟨#[116]⟩)), .p (.v (.string ⟨#[110]⟩)), .p (.v (.string ⟨#[]⟩)), .p (.v (.string ⟨#[99]⟩))]) (zaI (es := [.p (.v (.string ⟨#[]⟩)), .p (.v (.string ⟨#[116]⟩)), .p (.v (.string ⟨#[110]⟩)), .p (.v (.string ⟨#[]⟩)), .p (.v (.string ⟨#[116]⟩)), .p (.v (.string ⟨#[]⟩)), .p (.v (.string ⟨#[116]⟩)), .p (.v (.string ⟨#[116]⟩)), .p (.v (.string ⟨#[110]⟩)), .p (.v (.string ⟨#[]⟩)), .p (.v (.string ⟨#[99]⟩))]) (cs := [.v (.string ⟨#[]⟩), .v (.string ⟨#[116]⟩), .v (.string ⟨#[110]⟩), .v (.string ⟨#[]⟩), .v (.string ⟨#[116]⟩), .v (.string ⟨#[]⟩), .v (.string ⟨#[116]⟩), .v (.string ⟨#[116]⟩), .v (.string ⟨#[110]⟩), .v (.string ⟨#[]⟩), .v (.string ⟨#[99]⟩)]) 15 underlying89 sz9 zc9 (Nat.le_of_ble_eq_true rfl) (Nat.le_of_ble_eq_true rfl) rfl (by kernel_rfl) (by kernel_rfl) (by kernel_rfl) (Nat.le_of_ble_eq_true rfl)) (by first | rfl | kernel_rfl) rfl ⟨rfl, trivial⟩ ?_
 refine yF zap ?_
 refine yL underlying3 ?_
 refine zag (zaB underlying89 sz9 (by omega) (by omega) (show _ = 10 from rfl)) rfl rfl ⟨rfl, trivial⟩ ?_
 refine zag (zbq underlying9 rfl rfl) rfl rfl ⟨rfl, trivial⟩ ?_
 refine yA ?_
 refine zab ?_
 by_cases ht : t ≠ ⟨#[]⟩
 ·rw [if_pos (show seF ⟨10, t, n, a, b⟩ by simp [seF, isT, isN, isC, *])] at hE
  subst hE
  refine zaa (zaa ?_)
  refine tx ?_
  refine yF zay ?_
  refine yL underlying9 ?_
  refine zac (zau (c := true) (by simp [ht])) rfl rfl ?_
  refine yM ?_
  refine yM ?_
  refine zac (zau (s := ⟨#[99]⟩) (c := true) (by decide)) rfl rfl ?_
  refine yP zam ?_
  refine yM ?_
  refine yS ?_
  refine yS ?_
  refine yS ?_
  refine yS ?_
  refine yS ?_
  refine yS ?_
  refine yS ?_
  refine yP zam ?_
  refine yM ?_
  refine yS ?_
  refine yS ?_
  refine yS ?_
  refine yS ?_
  refine yS ?_
  refine yS ?_
  refine yS ?_
  refine yS ?_
  refine yP zam ?_
  refine zab ?_
  refine zae ?_
  refine zat rfl ?_
  refine zaa ?_
  refine tx ?_
  refine yA ?_
  refine zab ?_
  refine zah (zar ?_)
  refine yT ?_ ?_
  ·exact rfl
  ·exact trivial
 replace ht : t = ⟨#[]⟩ := Decidable.not_not.1 ht
 by_cases hn : n ≠ 0
 ·rw [if_pos (show seF ⟨10, t, n, a, b⟩ by simp [seF, isT, isN, isC, *])] at hE
  subst hE
  refine zaa (zaa ?_)
  refine tx ?_
  refine yF zay ?_
  refine yL underlying9 ?_
  refine zac (zau (c := false) (by simp [ht])) rfl rfl ?_
  refine yM ?_
  refine yS ?_
  refine yS ?_
  refine yP zai ?_
  refine yM ?_
  refine yF zaH ?_
  refine yL underlying3 ?_
  refine zac (zaM (c := true) (by simpa using hn)) rfl rfl ?_
  refine yM ?_
  refine yM ?_
  refine zac (zau (s := ⟨#[99]⟩) (c := true) (by decide)) rfl rfl ?_
  refine yP zam ?_
  refine yP zai ?_
  refine yM ?_
  refine yS ?_
  refine yS ?_
  refine yS ?_
  refine yS ?_
  refine yS ?_
  refine yS ?_
  refine yS ?_
  refine yS ?_
  refine yP zam ?_
  refine zab ?_
  refine zae ?_
  refine zat rfl ?_
  refine zaa ?_
  refine tx ?_
  refine yA ?_
  refine zab ?_
  refine zah (zar ?_)
  refine yT ?_ ?_
  ·exact rfl
  ·exact trivial
 replace hn : n = 0 := Decidable.not_not.1 hn
 by_cases hq : a = 0 ∧ b = 0
 ·refine zaa (zaa ?_)
  refine tx ?_
  refine yF zay ?_
  refine yL underlying9 ?_
  refine zac (zau (c := false) (by simp [ht])) rfl rfl ?_
  refine yM ?_
  refine yS ?_
  refine yS ?_
  refine yP zai ?_
  refine yM ?_
  refine yF zaH ?_
  refine yL underlying3 ?_
  refine zac (zaM (c := false) (by simp [hn])) rfl rfl ?_
  refine yM ?_
  refine yS ?_
  refine yS ?_
  refine yP zai ?_
  refine yP zai ?_
  refine yM ?_
  refine yF zaX ?_
  refine lN underlying27 rfl sz27 rfl rfl ⟨rfl, trivial⟩ ?_
  refine yP (zaO pl27 zr27 rfl rfl) ?_
  refine zac (zaJ underlying27 rfl rfl (by kernel_rfl) (by kernel_rfl) (by kernel_rfl) (c := false) (by rw [zbo]; simp [hq])) rfl rfl ?_
  refine yM ?_
  refine yS ?_
  refine yS ?_
  refine yP zai ?_
  refine yP zai ?_
  refine zab ?_
  refine zae ?_
  refine zaf rfl ?_
  rw [if_neg (show ¬ seF ⟨10, t, n, a, b⟩ by simp [seF, isT, isN, isC, *])] at hE
  rw [seV_10] at hE
  refine zad (zaa (zaj (zaa ?_)))
  refine tx ?_
  refine yM ?_
  refine zac (zaz (s := ⟨#[99]⟩) (c := false) (by decide)) rfl rfl ?_
  refine yM ?_
  refine yS ?_
  refine yS ?_
  refine yS ?_
  refine yS ?_
  refine yS ?_
  refine yS ?_
  refine yS ?_
  refine yS ?_
  refine yP zai ?_
  refine yA ?_
  refine zab ?_
  refine zae ?_
  refine zaf rfl ?_
  refine zaa ?_
  refine tx ?_
  refine yM ?_
  refine zac (zaz (s := ⟨#[99]⟩) (c := true) (by decide)) rfl rfl ?_
  refine yA ?_
  refine zab ?_
  refine zae ?_
  refine zat rfl ?_
  subst hE
  refine zaa ?_
  refine tx ?_
  refine yF zaX ?_
  refine lN underlying27 rfl sz27 rfl rfl ⟨rfl, trivial⟩ ?_
  refine yV (fun n => 64 + 1000 * n) (hC) func57 ?_
  refine yA ?_
  refine zab ?_
  refine zah (zaR (zar ?_))
  refine yT ?_ ?_
  ·exact rfl
  ·exact trivial
 ·refine zaa (zaa ?_)
  refine tx ?_
  refine yF zay ?_
  refine yL underlying9 ?_
  refine zac (zau (c := false) (by simp [ht])) rfl rfl ?_
  refine yM ?_
  refine yS ?_
  refine yS ?_
  refine yP zai ?_
  refine yM ?_
  refine yF zaH ?_
  refine yL underlying3 ?_
  refine zac (zaM (c := false) (by simp [hn])) rfl rfl ?_
  refine yM ?_
  refine yS ?_
  refine yS ?_
  refine yP zai ?_
  refine yP zai ?_
  refine yM ?_
  refine yF zaX ?_
  refine lN underlying27 rfl sz27 rfl rfl ⟨rfl, trivial⟩ ?_
  refine yP (zaO pl27 zr27 rfl rfl) ?_
  refine zac (zaJ underlying27 rfl rfl (by kernel_rfl) (by kernel_rfl) (by kernel_rfl) (c := true) (by rw [zbo]; simp; omega)) rfl rfl ?_
  refine yM ?_
  refine yM ?_
  refine zac (zau (s := ⟨#[99]⟩) (c := false) (by decide)) rfl rfl ?_
  refine yP zam ?_
  refine yP zai ?_
  refine zab ?_
  refine zae ?_
  refine zaf rfl ?_
  rw [if_neg (show ¬ seF ⟨10, t, n, a, b⟩ by simp [seF, isT, isN, isC, *])] at hE
  rw [seV_10] at hE
  refine zad (zaa (zaj (zaa ?_)))
  refine tx ?_
  refine yM ?_
  refine zac (zaz (s := ⟨#[99]⟩) (c := false) (by decide)) rfl rfl ?_
  refine yM ?_
  refine yS ?_
  refine yS ?_
  refine yS ?_
  refine yS ?_
  refine yS ?_
  refine yS ?_
  refine yS ?_
  refine yS ?_
  refine yP zai ?_
  refine yA ?_
  refine zab ?_
  refine zae ?_
  refine zaf rfl ?_
  refine zaa ?_
  refine tx ?_
  refine yM ?_
  refine zac (zaz (s := ⟨#[99]⟩) (c := true) (by decide)) rfl rfl ?_
  refine yA ?_
  refine zab ?_
  refine zae ?_
  refine zat rfl ?_
  subst hE
  refine zaa ?_
  refine tx ?_
  refine yF zaX ?_
  refine lN underlying27 rfl sz27 rfl rfl ⟨rfl, trivial⟩ ?_
  refine yV (fun n => 64 + 1000 * n) (hC) func57 ?_
  refine yA ?_
  refine zab ?_
  refine zah (zaR (zar ?_))
  refine yT ?_ ?_
  ·exact rfl
  ·exact trivial
theorem refCheckBad_s (s : SE) (hk : s.k < 1 ∨ 10 < s.k) : Fn prog 25 [.agg s.cells] (.p (.v (.int .i64 (seE s)))) [] := by
 have hE : seE s = 2 := if_pos hk
 rw [hE]
 obtain ⟨k, t, n, a, b⟩ := s
 dsimp only at hk
 show Fn prog _ [.agg [.p (.v (.int .i64 k)), .p (.v (.string t)), .p (.v (.int .i64 n)), .p (.v (.int .u32 a)), .p (.v (.int .i64 b))]] _ _
 refine zaq func25 rfl (Nat.le_of_ble_eq_true rfl) fun w0 A => ?_
 refine zaa ?_
 refine tx ?_
 refine zag (zaD (X := .agg _) 1 rfl) rfl rfl ⟨rfl, trivial⟩ ?_
 refine yA ?_
 refine zab ?_
 refine zaa (zaa ?_)
 refine tx ?_
 refine yF zap ?_
 refine yL underlying3 ?_
 refine yP za4 ?_
 refine yM ?_
 refine mb2 _ rfl rfl (fun hb => (zbR zap rfl)) (fun _ => trivial) ?_
 refine mb2 _ rfl rfl (fun hb => (zbY underlying3 rfl (by first | rfl | assumption))) (fun _ => ⟨rfl, trivial⟩) ?_
 refine mb2 _ rfl rfl (fun hb => zbD) (fun _ => trivial) ?_
 refine zac (a_or (by first | exact id | (simp; done) | grind)) rfl rfl ?_
 refine zab ?_
 refine zae ?_
 refine zan _ rfl (fun h => ?_) (fun h => ?_)
 ·refine zaa ?_
  refine tx ?_
  refine yA ?_
  refine zab ?_
  refine zah (zar ?_)
  refine yT ?_ ?_
  ·exact rfl
  ·exact trivial
 ·exact absurd hk (by simp at h; omega)
theorem zbb (s : SE) (ok : s.OK) : Fn prog 25 [.agg s.cells] (.p (.v (.int .i64 (seE s)))) [] := by
 by_cases hk : s.k < 1 ∨ 10 < s.k
 ·exact refCheckBad_s s hk
 obtain ⟨k, t, n, a, b⟩ := s
 dsimp only at hk
 have : k = 1 ∨ k = 2 ∨ k = 3 ∨ k = 4 ∨ k = 5 ∨ k = 6 ∨ k = 7 ∨ k = 8 ∨ k = 9 ∨ k = 10 := by omega
 rcases this with rfl | rfl | rfl | rfl | rfl | rfl | rfl | rfl | rfl | rfl
 ·exact refCheck1_s t n a b ok
 ·exact refCheck2_s t n a b ok
 ·exact refCheck3_s t n a b ok
 ·exact refCheck4_s t n a b ok
 ·exact refCheck5_s t n a b ok
 ·exact refCheck6_s t n a b ok
 ·exact refCheck7_s t n a b ok
 ·exact refCheck8_s t n a b ok
 ·exact refCheck9_s t n a b ok
 ·exact refCheck10_s t n a b ok
end Go.Proofs.YtkdfdcodkeclmaaGreatDoor
