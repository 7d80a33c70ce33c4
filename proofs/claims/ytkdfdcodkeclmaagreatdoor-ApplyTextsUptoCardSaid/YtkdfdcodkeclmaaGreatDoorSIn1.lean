/- slices.Insert of one element, over data. -/
import Derived.Test.YtkdfdcodkeclmaaGreatDoorSDl1
namespace Go.Proofs.YtkdfdcodkeclmaaGreatDoor
open Tryz
open Go.RowKit Go.Sort
set_option linter.unusedVariables false
set_option linter.unusedSimpArgs false
set_option maxRecDepth 100000
theorem setR2a {α : Type} {M X D : List α} {t : Nat} (h : M.length = t + X.length + D.length) : setR (setR M t X) (t + X.length) D = M.take t ++ X ++ D := by
 unfold setR
 have h1 : (M.take t).length = t := by rw [List.length_take]; omega
 have h2 : (M.take t ++ X).length = t + X.length := by rw [List.length_append, h1]
 rw [show (M.take t ++ X ++ M.drop (t + X.length)).take (t + X.length) = M.take t ++ X by rw [← h2, List.take_left]]
 rw [List.drop_eq_nil_of_le (by rw [List.length_append, h2, List.length_drop]; omega), List.append_nil]
theorem setR2b {α : Type} {M X D : List α} {t : Nat} (h : M.length = t + X.length + D.length) : setR (setR M (t + X.length) D) t X = M.take t ++ X ++ D := by
 unfold setR
 have h1 : (M.take (t + X.length)).length = t + X.length := by rw [List.length_take]; omega
 rw [show M.drop (t + X.length + D.length) = [] from List.drop_eq_nil_of_le (by omega), List.append_nil]
 have h3 : (M.take (t + X.length) ++ D).drop (t + X.length) = D := by
  have := List.drop_left (l₁ := M.take (t + X.length)) (l₂ := D)
  rwa [h1] at this
 rw [h3]
 rw [List.take_append_of_le_length (by rw [h1]; omega), List.take_take, Nat.min_eq_left (by omega)]
theorem fm_ins {α β : Type} {f : α → List β} {k : Nat} (hf : ∀ x, (f x).length = k) (l : List α) (i : Nat) (x : α) (hi : i ≤ l.length) : (l.take i ++ x :: l.drop i).flatMap f = (l.flatMap f).take (i * k) ++ f x ++ (l.flatMap f).drop (i * k) := by
 have h1 : ((l.take i).flatMap f).length = i * k := by rw [zat hf, List.length_take, Nat.min_eq_left hi]
 have h2 : l.flatMap f = (l.take i).flatMap f ++ (l.drop i).flatMap f := by rw [← List.flatMap_append, List.take_append_drop]
 rw [h2, ← h1, List.take_left, List.drop_left]
 simp [List.flatMap_append]
set_option maxHeartbeats 8000000 in
theorem insN_s (l : List NtP) (x : NtP) (i : Nat) (hi : i ≤ l.length) (hn : l.length ≤ 1048576) : FnR prog 88 [.row 0, .p (.v (.int .i64 i)), .psl 1 0 1 2] [(0, .row 27 2 l.length (l.flatMap ntC)), (1, .box 27 ((ntC x).map AV.p))] (.row 2) [(2, .row 27 2 (l.length + 1) ((l.take i ++ x :: l.drop i).flatMap ntC))] := by
 have hL : (l.flatMap ntC).length = l.length * 2 := zat (f := ntC) (k := 2) (fun _ => rfl) l
 rw [fm_ins (f := ntC) (k := 2) (fun _ => rfl) l i x hi]
 generalize l.flatMap ntC = L at *
 generalize l.length = n at *
 refine zcV func88 rfl (Nat.le_of_ble_eq_true rfl) fun w0 A => ?_
 refine G [8] ?_
 refine zac (zcE (L := (some (_, _))) (H := none) U58 sz27 ⟨by omega, rfl⟩ rfl (by omega) (by omega) rfl rfl) rfl rfl ⟨rfl, trivial⟩ ?_
 refine G [4] ?_
 refine zaa (a_lenV U58) rfl rfl ?_
 refine G [6] ?_
 refine zaa (zaA (c := false) (by simp)) rfl rfl ?_
 refine G [6] ?_
 refine zac (zaG U58) rfl rfl ⟨rfl, trivial⟩ ?_
 refine G [2] ?_
 by_cases hin : i = n
 ·subst hin
  refine G [5] ?_
  refine zaa (zaA (c := true) (by simp)) rfl rfl ?_
  refine G [2] ?_
  rw [List.take_of_length_le (by omega : L.length ≤ i * 2), List.drop_eq_nil_of_le (by omega : L.length ≤ i * 2), List.append_nil]
  refine G [4] ?_
  refine zac (zaF (cs := L) (ys := ntC x) 25 U58 eo27 (zeD (cs := (ntC x).map AV.p) rfl (Nat.le_of_ble_eq_true rfl) rfl) (by simp only [maxLen]; omega) (by omega) rfl rfl) rfl rfl ⟨rfl, rfl, rfl, trivial⟩ ?_
  refine G [3, 9, 0] ?_
  refine yT (fun _ => 25) ?_ ?_
  ·exact rfl
  ·exact ⟨⟨rfl, rfl⟩, trivial⟩
 have hlt : i < n := by omega
 refine G [5] ?_
 refine zaa (zaA (c := false) (by simp; omega)) rfl rfl ?_
 refine G [2] ?_
 refine awp_openR 0 rfl fun c hc1 hc2 => ?_
 have hXl : ((ntC x).map AV.p).length = 2 := rfl
 have hDl : ((L.drop (i * 2)).map AV.p).length = (n - i) * 2 := by rw [List.length_map, List.length_drop, hL, ← Nat.sub_mul]
 by_cases hcc : c < n + 1
 ·refine G [6] ?_
  refine zaa (zas (by first | exact IntWalk.i64_in _ (by omega) | rfl)) rfl rfl ?_
  refine zaa (zaJ (r := .row _)) rfl rfl ?_
  refine zac (zg1 U58) rfl rfl ⟨rfl, trivial⟩ ?_
  refine zaa (zbk (c := true) (by simp; omega)) rfl rfl ?_
  refine G [6] ?_
  refine zac (a_sliceC (h := i) (H := some (.i64, (i : Int))) U58 sz27 ⟨by omega, by simp⟩ (by omega)) rfl rfl ⟨rfl, trivial⟩ ?_
  refine G [2] ?_
  refine zaa (zas (by first | exact IntWalk.i64_in _ (by omega) | rfl)) rfl rfl ?_
  refine mP rfl rfl ?_
  refine zaa (zdZ (c := ((n + 1 - i : Nat) : Int)) (by rw [IntWalk.i64_in _ (by omega)]; omega)) rfl rfl ?_
  refine zac (zfa (size := 2) (k := n + 1 - i) (q := n + 1) (zs := (L.take (i * 2)).map AV.p ++ List.replicate ((n + 1 - i) * 2) .any) 40 U58 U3 eo27 (by omega) (by omega) (by omega) (by omega) (by simp only [maxLen]; omega) (by omega) (by rw [List.map_take]) (by omega)) rfl rfl ⟨rfl, rfl, trivial⟩ ?_
  refine G [2] ?_
  have hMl : ((L.take (i * 2)).map AV.p ++ List.replicate ((n + 1 - i) * 2) AV.any).length = i * 2 + ((ntC x).map AV.p).length + ((L.drop (i * 2)).map AV.p).length := by
   rw [hXl, hDl, List.length_append, List.length_map, List.length_take, List.length_replicate]
   omega
  have hset := setR2a hMl
  have hT0 : ((L.take (i * 2)).map AV.p ++ List.replicate ((n + 1 - i) * 2) AV.any).take (i * 2) = (L.take (i * 2)).map AV.p := by
   rw [List.take_append_of_le_length (by rw [List.length_map, List.length_take]; omega), List.take_of_length_le (by rw [List.length_map, List.length_take]; omega)]
  rw [hT0, ← List.map_append, ← List.map_append] at hset
  generalize hM : (L.take (i * 2)).map AV.p ++ List.replicate ((n + 1 - i) * 2) AV.any = M at *
  refine G [4] ?_
  refine zac (za7 (L := (some (_, _))) (H := none) U58 sz27 ⟨by omega, rfl⟩ rfl (by omega) (by omega) rfl rfl) rfl rfl ⟨rfl, trivial⟩ ?_
  refine zaa (zaJ (r := .psl _ _ _ _)) rfl rfl ?_
  refine zac (zcG (q := 1) (size := 2) (ys := ntC x) U58 sz27 (srcQ (zeD (cs := (ntC x).map AV.p) rfl (Nat.le_of_ble_eq_true rfl) rfl)) (by omega) (by omega) (by omega) rfl) rfl rfl ⟨rfl, rfl, trivial⟩ ?_
  refine G [6] ?_
  refine zaa (zas (by first | exact IntWalk.i64_in _ (by omega) | rfl)) rfl rfl ?_
  refine zac (za7 (L := (some (_, _))) (H := none) U58 sz27 ⟨by omega, rfl⟩ rfl (by omega) (by omega) rfl rfl) rfl rfl ⟨rfl, trivial⟩ ?_
  refine G [2] ?_
  refine zac (za7 (L := (some (_, _))) (H := none) U58 sz27 ⟨by omega, rfl⟩ rfl (by omega) (by omega) rfl rfl) rfl rfl ⟨rfl, trivial⟩ ?_
  refine zac (zcG (q := n - i) (size := 2) (ys := L.drop (i * 2)) U58 sz27 (zd4 (by omega) (by rw [List.length_map]; omega) (by rw [List.map_drop]; exact List.take_of_length_le (by rw [List.length_drop, List.length_map]; omega))) (by omega) (by omega) (by rw [zbh (by rw [hXl]; omega)]; omega) (es := setR (setR M (i * 2) ((ntC x).map AV.p)) (i * 2 + ((ntC x).map AV.p).length) ((L.drop (i * 2)).map AV.p)) (by congr 1; rw [hXl]; omega)) rfl rfl ⟨rfl, rfl, trivial⟩ ?_
  refine G [6] ?_
  refine zba (zcj 40 (cs := L.take (i * 2) ++ ntC x ++ L.drop (i * 2)) (by rw [← hset]; rfl)) ?_
  refine za2 ?_
  refine zcZ ?_
  refine yT (fun _ => 40) ?_ ?_
  ·exact rfl
  ·exact ⟨⟨rfl, rfl⟩, trivial⟩
 ·refine G [6] ?_
  refine zaa (zas (by first | exact IntWalk.i64_in _ (by omega) | rfl)) rfl rfl ?_
  refine zaa (zaJ (r := .row _)) rfl rfl ?_
  refine zac (zg1 U58) rfl rfl ⟨rfl, trivial⟩ ?_
  refine zaa (zbk (c := false) (by simp; omega)) rfl rfl ?_
  refine G [8] ?_
  refine zaa (zas (by first | exact IntWalk.i64_in _ (by omega) | rfl)) rfl rfl ?_
  refine zac (a_sliceUp (o' := 60) (h := n + 1) (H := some (.i64, ((n + 1 : Nat) : Int))) (zs := L.map AV.p ++ List.replicate (1 * 2) .any) U58 sz27 ⟨by omega, by simp⟩ (by omega) (by omega) (by rw [show n + 1 - n = 1 by omega])) rfl rfl ⟨rfl, rfl, trivial⟩ ?_
  refine G [2] ?_
  have hMl : (L.map AV.p ++ List.replicate (1 * 2) AV.any).length = i * 2 + ((ntC x).map AV.p).length + ((L.drop (i * 2)).map AV.p).length := by
   rw [hXl, hDl, List.length_append, List.length_map, List.length_replicate]
   omega
  have hset := setR2b hMl
  have hT0 : (L.map AV.p ++ List.replicate (1 * 2) AV.any).take (i * 2) = (L.take (i * 2)).map AV.p := by
   rw [List.take_append_of_le_length (by rw [List.length_map]; omega), List.map_take]
  have hD0 : ((L.map AV.p ++ List.replicate (1 * 2) AV.any).drop (i * 2)).take ((n - i) * 2) = (L.drop (i * 2)).map AV.p := by
   rw [List.drop_append_of_le_length (by rw [List.length_map]; omega), ← List.map_drop, List.take_append_of_le_length (by rw [hDl]; exact Nat.le_refl _), List.take_of_length_le (by rw [hDl]; exact Nat.le_refl _)]
  rw [hT0, ← List.map_append, ← List.map_append] at hset
  generalize hM : L.map AV.p ++ List.replicate (1 * 2) AV.any = M at *
  refine G [7] ?_
  refine zaa (zas (by first | exact IntWalk.i64_in _ (by omega) | rfl)) rfl rfl ?_
  refine zac (za7 (L := (some (_, _))) (H := none) U58 sz27 ⟨by omega, rfl⟩ rfl (by omega) (by omega) rfl rfl) rfl rfl ⟨rfl, trivial⟩ ?_
  refine zac (zgv (tR := 4) (size := 2) func120 (by kernel_rfl) rfl rfl (by kernel_rfl) U58 sz27 rfl (by omega) (by omega) (by omega)) rfl rfl ⟨rfl, rfl, trivial⟩ ?_
  refine G [8] ?_
  refine zaa (zas (by first | exact IntWalk.i64_in _ (by omega) | rfl)) rfl rfl ?_
  refine zac (za7 (L := (some (_, _))) (H := none) U58 sz27 ⟨by omega, rfl⟩ rfl (by omega) (by omega) rfl rfl) rfl rfl ⟨rfl, trivial⟩ ?_
  refine G [2] ?_
  refine zac (za7 (L := (some (_, _))) (H := none) U58 sz27 ⟨by omega, rfl⟩ rfl (by omega) (by omega) rfl rfl) rfl rfl ⟨rfl, trivial⟩ ?_
  refine zac (zcG (q := n - i) (size := 2) (ys := L.drop (i * 2)) U58 sz27 (zd4 (by omega) (by omega) hD0) (by omega) (by omega) (by omega) (es := setR M (i * 2 + ((ntC x).map AV.p).length) ((L.drop (i * 2)).map AV.p)) (by congr 1; rw [hXl]; omega)) rfl rfl ⟨rfl, rfl, trivial⟩ ?_
  refine G [5] ?_
  refine zac (za7 (L := (some (_, _))) (H := none) U58 sz27 ⟨by omega, rfl⟩ rfl (by omega) (by omega) rfl rfl) rfl rfl ⟨rfl, trivial⟩ ?_
  refine zaa (zaJ (r := .psl _ _ _ _)) rfl rfl ?_
  refine zac (zcG (q := 1) (size := 2) (ys := ntC x) U58 sz27 (srcQ (zeD (cs := (ntC x).map AV.p) rfl (Nat.le_of_ble_eq_true rfl) rfl)) (by omega) (by omega) (by rw [zbh (by rw [hDl]; omega)]; omega) rfl) rfl rfl ⟨rfl, rfl, trivial⟩ ?_
  refine G [6] ?_
  refine zba (zcj 60 (cs := L.take (i * 2) ++ ntC x ++ L.drop (i * 2)) (by rw [← hset]; rfl)) ?_
  refine za2 ?_
  refine zcZ ?_
  refine yT (fun _ => 60) ?_ ?_
  ·exact rfl
  ·exact ⟨⟨rfl, rfl⟩, trivial⟩
set_option maxHeartbeats 8000000 in
theorem insP_s (l : List PK) (x : PK) (i : Nat) (hi : i ≤ l.length) (hn : l.length ≤ 1048576) : FnR prog 83 [.row 0, .p (.v (.int .i64 i)), .psl 1 0 1 5] [(0, .row 60 5 l.length (l.flatMap pkC)), (1, .box 60 ((pkC x).map AV.p))] (.row 2) [(2, .row 60 5 (l.length + 1) ((l.take i ++ x :: l.drop i).flatMap pkC))] := by
 have hL : (l.flatMap pkC).length = l.length * 5 := zat (f := pkC) (k := 5) (fun _ => rfl) l
 rw [fm_ins (f := pkC) (k := 5) (fun _ => rfl) l i x hi]
 generalize l.flatMap pkC = L at *
 generalize l.length = n at *
 refine zcV func83 rfl (Nat.le_of_ble_eq_true rfl) fun w0 A => ?_
 refine G [8] ?_
 refine zac (zcE (L := (some (_, _))) (H := none) U22 sz60 ⟨by omega, rfl⟩ rfl (by omega) (by omega) rfl rfl) rfl rfl ⟨rfl, trivial⟩ ?_
 refine G [4] ?_
 refine zaa (a_lenV U22) rfl rfl ?_
 refine G [6] ?_
 refine zaa (zaA (c := false) (by simp)) rfl rfl ?_
 refine G [6] ?_
 refine zac (zaG U22) rfl rfl ⟨rfl, trivial⟩ ?_
 refine G [2] ?_
 by_cases hin : i = n
 ·subst hin
  refine G [5] ?_
  refine zaa (zaA (c := true) (by simp)) rfl rfl ?_
  refine G [2] ?_
  rw [List.take_of_length_le (by omega : L.length ≤ i * 5), List.drop_eq_nil_of_le (by omega : L.length ≤ i * 5), List.append_nil]
  refine G [4] ?_
  refine zac (zaF (cs := L) (ys := pkC x) 25 U22 eo60 (zeD (cs := (pkC x).map AV.p) rfl (Nat.le_of_ble_eq_true rfl) rfl) (by simp only [maxLen]; omega) (by omega) rfl rfl) rfl rfl ⟨rfl, rfl, rfl, trivial⟩ ?_
  refine G [3, 9, 0] ?_
  refine yT (fun _ => 25) ?_ ?_
  ·exact rfl
  ·exact ⟨⟨rfl, rfl⟩, trivial⟩
 have hlt : i < n := by omega
 refine G [5] ?_
 refine zaa (zaA (c := false) (by simp; omega)) rfl rfl ?_
 refine G [2] ?_
 refine awp_openR 0 rfl fun c hc1 hc2 => ?_
 have hXl : ((pkC x).map AV.p).length = 5 := rfl
 have hDl : ((L.drop (i * 5)).map AV.p).length = (n - i) * 5 := by rw [List.length_map, List.length_drop, hL, ← Nat.sub_mul]
 by_cases hcc : c < n + 1
 ·refine G [6] ?_
  refine zaa (zas (by first | exact IntWalk.i64_in _ (by omega) | rfl)) rfl rfl ?_
  refine zaa (zaJ (r := .row _)) rfl rfl ?_
  refine zac (zg1 U22) rfl rfl ⟨rfl, trivial⟩ ?_
  refine zaa (zbk (c := true) (by simp; omega)) rfl rfl ?_
  refine G [6] ?_
  refine zac (a_sliceC (h := i) (H := some (.i64, (i : Int))) U22 sz60 ⟨by omega, by simp⟩ (by omega)) rfl rfl ⟨rfl, trivial⟩ ?_
  refine G [2] ?_
  refine zaa (zas (by first | exact IntWalk.i64_in _ (by omega) | rfl)) rfl rfl ?_
  refine mP rfl rfl ?_
  refine zaa (zdZ (c := ((n + 1 - i : Nat) : Int)) (by rw [IntWalk.i64_in _ (by omega)]; omega)) rfl rfl ?_
  refine zac (zfa (size := 5) (k := n + 1 - i) (q := n + 1) (zs := (L.take (i * 5)).map AV.p ++ List.replicate ((n + 1 - i) * 5) .any) 40 U22 U3 eo60 (by omega) (by omega) (by omega) (by omega) (by simp only [maxLen]; omega) (by omega) (by rw [List.map_take]) (by omega)) rfl rfl ⟨rfl, rfl, trivial⟩ ?_
  refine G [2] ?_
  have hMl : ((L.take (i * 5)).map AV.p ++ List.replicate ((n + 1 - i) * 5) AV.any).length = i * 5 + ((pkC x).map AV.p).length + ((L.drop (i * 5)).map AV.p).length := by
   rw [hXl, hDl, List.length_append, List.length_map, List.length_take, List.length_replicate]
   omega
  have hset := setR2a hMl
  have hT0 : ((L.take (i * 5)).map AV.p ++ List.replicate ((n + 1 - i) * 5) AV.any).take (i * 5) = (L.take (i * 5)).map AV.p := by
   rw [List.take_append_of_le_length (by rw [List.length_map, List.length_take]; omega), List.take_of_length_le (by rw [List.length_map, List.length_take]; omega)]
  rw [hT0, ← List.map_append, ← List.map_append] at hset
  generalize hM : (L.take (i * 5)).map AV.p ++ List.replicate ((n + 1 - i) * 5) AV.any = M at *
  refine G [4] ?_
  refine zac (za7 (L := (some (_, _))) (H := none) U22 sz60 ⟨by omega, rfl⟩ rfl (by omega) (by omega) rfl rfl) rfl rfl ⟨rfl, trivial⟩ ?_
  refine zaa (zaJ (r := .psl _ _ _ _)) rfl rfl ?_
  refine zac (zcG (q := 1) (size := 5) (ys := pkC x) U22 sz60 (srcQ (zeD (cs := (pkC x).map AV.p) rfl (Nat.le_of_ble_eq_true rfl) rfl)) (by omega) (by omega) (by omega) rfl) rfl rfl ⟨rfl, rfl, trivial⟩ ?_
  refine G [6] ?_
  refine zaa (zas (by first | exact IntWalk.i64_in _ (by omega) | rfl)) rfl rfl ?_
  refine zac (za7 (L := (some (_, _))) (H := none) U22 sz60 ⟨by omega, rfl⟩ rfl (by omega) (by omega) rfl rfl) rfl rfl ⟨rfl, trivial⟩ ?_
  refine G [2] ?_
  refine zac (za7 (L := (some (_, _))) (H := none) U22 sz60 ⟨by omega, rfl⟩ rfl (by omega) (by omega) rfl rfl) rfl rfl ⟨rfl, trivial⟩ ?_
  refine zac (zcG (q := n - i) (size := 5) (ys := L.drop (i * 5)) U22 sz60 (zd4 (by omega) (by rw [List.length_map]; omega) (by rw [List.map_drop]; exact List.take_of_length_le (by rw [List.length_drop, List.length_map]; omega))) (by omega) (by omega) (by rw [zbh (by rw [hXl]; omega)]; omega) (es := setR (setR M (i * 5) ((pkC x).map AV.p)) (i * 5 + ((pkC x).map AV.p).length) ((L.drop (i * 5)).map AV.p)) (by congr 1; rw [hXl]; omega)) rfl rfl ⟨rfl, rfl, trivial⟩ ?_
  refine G [6] ?_
  refine zba (zcj 40 (cs := L.take (i * 5) ++ pkC x ++ L.drop (i * 5)) (by rw [← hset]; rfl)) ?_
  refine za2 ?_
  refine zcZ ?_
  refine yT (fun _ => 40) ?_ ?_
  ·exact rfl
  ·exact ⟨⟨rfl, rfl⟩, trivial⟩
 ·refine G [6] ?_
  refine zaa (zas (by first | exact IntWalk.i64_in _ (by omega) | rfl)) rfl rfl ?_
  refine zaa (zaJ (r := .row _)) rfl rfl ?_
  refine zac (zg1 U22) rfl rfl ⟨rfl, trivial⟩ ?_
  refine zaa (zbk (c := false) (by simp; omega)) rfl rfl ?_
  refine G [8] ?_
  refine zaa (zas (by first | exact IntWalk.i64_in _ (by omega) | rfl)) rfl rfl ?_
  refine zac (a_sliceUp (o' := 60) (h := n + 1) (H := some (.i64, ((n + 1 : Nat) : Int))) (zs := L.map AV.p ++ List.replicate (1 * 5) .any) U22 sz60 ⟨by omega, by simp⟩ (by omega) (by omega) (by rw [show n + 1 - n = 1 by omega])) rfl rfl ⟨rfl, rfl, trivial⟩ ?_
  refine G [2] ?_
  have hMl : (L.map AV.p ++ List.replicate (1 * 5) AV.any).length = i * 5 + ((pkC x).map AV.p).length + ((L.drop (i * 5)).map AV.p).length := by
   rw [hXl, hDl, List.length_append, List.length_map, List.length_replicate]
   omega
  have hset := setR2b hMl
  have hT0 : (L.map AV.p ++ List.replicate (1 * 5) AV.any).take (i * 5) = (L.take (i * 5)).map AV.p := by
   rw [List.take_append_of_le_length (by rw [List.length_map]; omega), List.map_take]
  have hD0 : ((L.map AV.p ++ List.replicate (1 * 5) AV.any).drop (i * 5)).take ((n - i) * 5) = (L.drop (i * 5)).map AV.p := by
   rw [List.drop_append_of_le_length (by rw [List.length_map]; omega), ← List.map_drop, List.take_append_of_le_length (by rw [hDl]; exact Nat.le_refl _), List.take_of_length_le (by rw [hDl]; exact Nat.le_refl _)]
  rw [hT0, ← List.map_append, ← List.map_append] at hset
  generalize hM : L.map AV.p ++ List.replicate (1 * 5) AV.any = M at *
  refine G [7] ?_
  refine zaa (zas (by first | exact IntWalk.i64_in _ (by omega) | rfl)) rfl rfl ?_
  refine zac (za7 (L := (some (_, _))) (H := none) U22 sz60 ⟨by omega, rfl⟩ rfl (by omega) (by omega) rfl rfl) rfl rfl ⟨rfl, trivial⟩ ?_
  refine zac (zgv (tR := 4) (size := 5) func117 (by kernel_rfl) rfl rfl (by kernel_rfl) U22 sz60 rfl (by omega) (by omega) (by omega)) rfl rfl ⟨rfl, rfl, trivial⟩ ?_
  refine G [8] ?_
  refine zaa (zas (by first | exact IntWalk.i64_in _ (by omega) | rfl)) rfl rfl ?_
  refine zac (za7 (L := (some (_, _))) (H := none) U22 sz60 ⟨by omega, rfl⟩ rfl (by omega) (by omega) rfl rfl) rfl rfl ⟨rfl, trivial⟩ ?_
  refine G [2] ?_
  refine zac (za7 (L := (some (_, _))) (H := none) U22 sz60 ⟨by omega, rfl⟩ rfl (by omega) (by omega) rfl rfl) rfl rfl ⟨rfl, trivial⟩ ?_
  refine zac (zcG (q := n - i) (size := 5) (ys := L.drop (i * 5)) U22 sz60 (zd4 (by omega) (by omega) hD0) (by omega) (by omega) (by omega) (es := setR M (i * 5 + ((pkC x).map AV.p).length) ((L.drop (i * 5)).map AV.p)) (by congr 1; rw [hXl]; omega)) rfl rfl ⟨rfl, rfl, trivial⟩ ?_
  refine G [5] ?_
  refine zac (za7 (L := (some (_, _))) (H := none) U22 sz60 ⟨by omega, rfl⟩ rfl (by omega) (by omega) rfl rfl) rfl rfl ⟨rfl, trivial⟩ ?_
  refine zaa (zaJ (r := .psl _ _ _ _)) rfl rfl ?_
  refine zac (zcG (q := 1) (size := 5) (ys := pkC x) U22 sz60 (srcQ (zeD (cs := (pkC x).map AV.p) rfl (Nat.le_of_ble_eq_true rfl) rfl)) (by omega) (by omega) (by rw [zbh (by rw [hDl]; omega)]; omega) rfl) rfl rfl ⟨rfl, rfl, trivial⟩ ?_
  refine G [6] ?_
  refine zba (zcj 60 (cs := L.take (i * 5) ++ pkC x ++ L.drop (i * 5)) (by rw [← hset]; rfl)) ?_
  refine za2 ?_
  refine zcZ ?_
  refine yT (fun _ => 60) ?_ ?_
  ·exact rfl
  ·exact ⟨⟨rfl, rfl⟩, trivial⟩
end Go.Proofs.YtkdfdcodkeclmaaGreatDoor
