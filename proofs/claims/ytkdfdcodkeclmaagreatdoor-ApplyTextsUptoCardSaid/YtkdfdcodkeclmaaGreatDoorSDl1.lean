/- slices.IndexFunc and slices.DeleteFunc, over data. -/
import Derived.Test.YtkdfdcodkeclmaaGreatDoorSRc
import Derived.Test.YtkdfdcodkeclmaaGreatDoorSCf5
import Derived.Test.YtkdfdcodkeclmaaGreatDoorSCf3
namespace Go.Proofs.YtkdfdcodkeclmaaGreatDoor
open Tryz
open Go.RowKit Go.Sort
set_option linter.unusedVariables false
set_option linter.unusedSimpArgs false
set_option maxRecDepth 100000
theorem fm_push {α β : Type} (f : α → List β) (F : List α) (x : α) (L : List α) : (F ++ x :: L).flatMap f = F.flatMap f ++ (f x ++ L.flatMap f) := by
 simp [List.flatMap_append]
theorem fm_set {α β : Type} {f : α → List β} {k : Nat} (hf : ∀ x, (f x).length = k) (F : List α) (y x : α) (L : List α) : setR ((F ++ y :: L).flatMap f) (F.length * k) (f x) = ((F ++ [x]) ++ L).flatMap f := by
 have h1 : (F.flatMap f).length = F.length * k := zat hf F
 rw [fm_push]
 unfold setR
 rw [← h1, List.take_left, hf, ← hf y, List.append_assoc]
 rw [show F.flatMap f ++ (f y ++ L.flatMap f) = (F.flatMap f ++ f y) ++ L.flatMap f by rw [List.append_assoc]]
 rw [show (F.flatMap f).length + (f y).length = (F.flatMap f ++ f y).length by rw [List.length_append]]
 rw [List.drop_left]
 simp [List.flatMap_append]
theorem setR_head {α : Type} {l vs : List α} {d : Nat} (h : d ≤ l.length) : (setR l d vs).take d = l.take d := by
 unfold setR
 rw [List.append_assoc, List.take_append_of_le_length (by rw [List.length_take]; omega), List.take_take, Nat.min_self]
theorem drop_at {α : Type} {l : List α} {i : Nat} (h : i < l.length) : l.drop i = l[i] :: l.drop (i + 1) := (List.drop_eq_getElem_cons h)
theorem zeu {α : Type} (q : α → Bool) {l : List α} {j : Nat} (h : j < l.length) : (l.take (j + 1)).filter q = (l.take j).filter q ++ (if q l[j] then [l[j]] else []) := by
 rw [List.take_succ_eq_append_getElem h, List.filter_append]
 congr 1
 cases hq : q l[j] <;> simp [List.filter, hq]
theorem idx_not {α : Type} {q : α → Bool} {l : List α} (h : ¬ l.findIdx q < l.length) : ∀ x ∈ l, q x = false := fun x hx => by
 rcases hq : q x with _ | _
 ·rfl
 ·exact absurd (List.findIdx_lt_length_of_exists ⟨x, hx, hq⟩) h
theorem zeS {α : Type} {q : α → Bool} {l : List α} (h : ∀ x ∈ l, q x = false) : l.filter (fun x => !q x) = l := List.filter_eq_self.2 fun x hx => by simp [h x hx]
theorem zfT {α : Type} {q : α → Bool} {l : List α} (h : l.findIdx q < l.length) : (l.take (l.findIdx q + 1)).filter (fun x => !q x) = l.take (l.findIdx q) := by
 rw [zeu _ h]
 have h1 : q l[l.findIdx q] = true := List.findIdx_getElem
 rw [zeS]
 ·simp [h1]
 ·intro x hx
  obtain ⟨i, hi, rfl⟩ := List.mem_iff_getElem.1 hx
  rw [List.length_take] at hi
  rw [List.getElem_take]
  have := List.not_of_lt_findIdx (p := q) (xs := l) (i := i) (by omega)
  simpa using this
def fI {α : Type} (q : α → Bool) (l : List α) : Int := if l.findIdx q < l.length then l.findIdx q else -1
abbrev PK := ByteArray × Value × Value × Value × Value
def pkC (p : PK) : List PV := [.v (.string p.1), .v p.2.1, .v p.2.2.1, .v p.2.2.2.1, .v p.2.2.2.2]
theorem clN_s (m n : NtP) : Fn prog 86 [.agg ((ntC m).map AV.p), .ptr (ntC n)] (.p (.v (.bool (decide (m = n))))) [] := by
 show Fn prog _ [.agg [.p (.v (.int .u32 m.1)), .p (.v (.int .i64 m.2))], .ptr [.v (.int .u32 n.1), .v (.int .i64 n.2)]] _ _
 refine fnI fun w0 A => ?_
 refine G [8] ?_
 refine zaa (zaq U27 rfl sz27 (by first | omega | (simp; done) | (simp; omega)) (rfl)) rfl rfl ?_
 refine zaa (zez U27 rfl rfl (by kernel_rfl) (by kernel_rfl) (by kernel_rfl) (c := decide (m = n)) (zcv ..)) rfl rfl ?_
 refine G [3, 9, 0] ?_
 exact yE
theorem clP_s (p : PK) (k : ByteArray) : Fn prog 53 [.agg ((pkC p).map AV.p), .ptr [.v (.string k)]] (.p (.v (.bool (decide (p.1 = k))))) [] := by
 show Fn prog _ [.agg [.p (.v (.string p.1)), .p (.v p.2.1), .p (.v p.2.2.1), .p (.v p.2.2.2.1), .p (.v p.2.2.2.2)], .ptr [.v (.string k)]] _ _
 refine fnI fun w0 A => ?_
 refine G [9] ?_
 refine zaa (zaZ U9 rfl (by first | rfl | assumption | ((try simp only [List.getElem?_drop, List.getElem?_take, Int.toNat_natCast, Nat.mul_one, Nat.add_zero, Nat.zero_add]); first | assumption | rfl))) rfl rfl ?_
 refine G [4, 9, 0] ?_
 exact yE
theorem ixN_s (l : List NtP) (n : NtP) (hn : l.length ≤ 1048576) : Fn prog 119 [.p (.sl l.length 2 (l.flatMap ntC)), .fn 86 [.ptr (ntC n)]] (.p (.v (.int .i64 (fI (fun m => decide (m = n)) l)))) [] := by
 have hq := fun x => clN_s x n
 generalize (ntC n) = K at *
 obtain ⟨q, hqd⟩ : ∃ q : NtP → Bool, q = fun m => decide (m = n) := ⟨_, rfl⟩
 rw [← hqd]
 replace hq : ∀ x, Fn prog 86 [.agg ((ntC x).map AV.p), .ptr K] (.p (.v (.bool (q x)))) [] := fun x => by rw [hqd]; exact hq x
 clear hqd
 refine fnI fun w0 A => ?_
 refine G [8] ?_
 refine zaa (zaL U58) rfl rfl ?_
 refine G [3] ?_
 refine zal (fun m st => ∃ i : Nat, m + i = l.length ∧ i ≤ l.findIdx q ∧ st = St.of [(0, .p (.sl l.length 2 (l.flatMap ntC))), (1, .fn 86 [.ptr K]), (7, .p (.v (.int .i64 l.length))), (8, .p (.v (.int .i64 i)))] []) l.length ?_ ?_
 ·refine ⟨_, zak id _ _ ?_ ?_ rfl, 0, by omega, by omega, rfl⟩
  ·(repeat (first | exact trivial | (refine ⟨⟨(by first | rfl | (simp; done) | (simp; omega)), rfl⟩, ?_⟩)))
  ·exact trivial
 rintro m st ⟨i, hi, hb, rfl⟩
 refine G [5] ?_
 refine zab _ rfl (fun h => ?_) (fun h => ?_)
 ·have hlt : i < l.length := by simp at h; omega
  clear h
  have hx : l[i]? = some (l[i]'(by omega)) := List.getElem?_eq_getElem (by omega)
  have hch := zav (f := ntC) (k := 2) (fun _ => rfl) hx
  have hle := zau (f := ntC) (k := 2) (fun _ => rfl) hlt
  have hC := hq (l[i]'(by omega))
  have hyes : q (l[i]'(by omega)) = true → fI q l = i := fun h => by
   have h1 : l.findIdx q ≤ i := by
    rcases Nat.lt_or_ge i (l.findIdx q) with h2 | h2
    ·have := List.not_of_lt_findIdx (p := q) (xs := l) h2
     rw [h] at this; simp at this
    ·exact h2
   have h2 : l.findIdx q = i := by omega
   unfold fI; rw [h2, if_pos hlt]
  have hno : q (l[i]'(by omega)) = false → i + 1 ≤ l.findIdx q := fun h => by
   rcases Nat.lt_or_ge i (l.findIdx q) with h2 | h2
   ·exact h2
   ·have h3 : l.findIdx q = i := by omega
    have h4 : q (l[l.findIdx q]'(by omega)) = true := List.findIdx_getElem
    simp only [h3] at h4
    rw [h4] at h; cases h
  generalize hxx : (l[i]'(by omega)) = x at *
  generalize l.flatMap ntC = L at *
  refine G [8] ?_
  rcases hc : q x with _ | _
  ·rw [hc] at hC
   refine G [5] ?_
   refine zaa (zad U58 sz27 (by omega) (by omega) rfl) rfl rfl ?_
   refine zaa (zaq U27 rfl sz27 (by first | omega | (simp; done) | (simp; omega)) (hch)) rfl rfl ?_
   refine cK hC ?_
   refine G [4] ?_
   refine zaa (zas (by first | exact IntWalk.i64_in _ (by omega) | rfl)) rfl rfl ?_
   refine G [2, 9, 0] ?_
   refine ⟨m - 1, by omega, _, zak id _ _ ?_ ?_ rfl, i + 1, by omega, hno hc, rfl⟩
   ·(repeat (first | exact trivial | (refine ⟨⟨(by first | rfl | (simp; done) | (simp; omega)), rfl⟩, ?_⟩)))
   ·exact trivial
  ·rw [hyes hc]
   rw [hc] at hC
   refine G [5] ?_
   refine zaa (zad U58 sz27 (by omega) (by omega) rfl) rfl rfl ?_
   refine zaa (zaq U27 rfl sz27 (by first | omega | (simp; done) | (simp; omega)) (hch)) rfl rfl ?_
   refine cK hC ?_
   refine G [8, 9, 0] ?_
   exact yE
 have hge : i = l.length := by simp at h; omega
 clear h
 have hI : fI q l = -1 := by unfold fI; rw [if_neg (by omega)]
 rw [hI]
 refine G [6, 9, 0] ?_
 exact yE
set_option maxHeartbeats 4000000 in
theorem delN_s (l : List NtP) (n : NtP) (hn : l.length ≤ 1048576) : FnR prog 85 [.row 0, .fn 86 [.ptr (ntC n)]] [(0, .row 27 2 l.length (l.flatMap ntC))] (.row 1) [(1, .row 27 2 (l.filter (fun x => !(fun m => decide (m = n)) x)).length ((l.filter (fun x => !(fun m => decide (m = n)) x)).flatMap ntC))] := by
 have hI := ixN_s l n hn
 have hq := fun x => clN_s x n
 generalize (ntC n) = K at *
 obtain ⟨q, hqd⟩ : ∃ q : NtP → Bool, q = fun m => decide (m = n) := ⟨_, rfl⟩
 rw [← hqd] at hI ⊢
 replace hq : ∀ x, Fn prog 86 [.agg ((ntC x).map AV.p), .ptr K] (.p (.v (.bool (q x)))) [] := fun x => by rw [hqd]; exact hq x
 clear hqd
 unfold fI at hI
 have hL0 : (l.flatMap ntC).length = l.length * 2 := zat (f := ntC) (k := 2) (fun _ => rfl) l
 by_cases h0 : l.findIdx q < l.length
 ·rw [if_pos h0] at hI
  have hF0 := zfT h0
  generalize hi0 : l.findIdx q = i0 at *
  refine zcV func85 rfl (Nat.le_of_ble_eq_true rfl) fun w0 A => ?_
  refine G [8] ?_
  refine cV hI ?_
  refine G [6] ?_
  refine zaa (zaA (c := false) (by first | (simp; done) | (simp; omega))) rfl rfl ?_
  refine G [7] ?_
  refine zaa (zas (by first | exact IntWalk.i64_in _ (by omega) | rfl)) rfl rfl ?_
  refine G [3] ?_
  refine zal (fun m st => ∃ j i : Nat, ∃ F : List NtP, m + j = l.length ∧ F = (l.take j).filter (fun x => !q x) ∧ F.length = i ∧ i < j ∧ st = St.of [(0, .row 0), (1, .fn 86 [.ptr K]), (5, .p (.v (.int .i64 i))), (6, .p (.v (.int .i64 j)))] [(0, .row 27 2 l.length ((F ++ l.drop i).flatMap ntC))]) (l.length - (i0 + 1)) ?_ ?_
  ·refine ⟨_, zak id [(0, .row 0), (1, .fn 86 [.ptr K]), (5, .p (.v (.int .i64 i0))), (6, .p (.v (.int .i64 (i0 + 1 : Nat))))] [(0, .row 27 2 l.length (l.flatMap ntC))] ?_ ?_ rfl, i0 + 1, i0, l.take i0, by omega, hF0.symm, by rw [List.length_take]; omega, by omega, by rw [List.take_append_drop]⟩
   ·(repeat (first | exact trivial | (refine ⟨⟨(by first | rfl | (simp; done) | (simp; omega)), rfl⟩, ?_⟩)))
   ·exact ⟨⟨rfl, rfl⟩, trivial⟩
  rintro m st ⟨j, i, F, hm, hF, hFl, hij, rfl⟩
  refine G [5] ?_
  refine zac (zaG U58) rfl rfl ⟨rfl, trivial⟩ ?_
  refine G [2, 9, 0] ?_
  refine zab _ rfl (fun h => ?_) (fun h => ?_)
  ·have hlt : j < l.length := by simp at h; omega
   clear h
   have hRl : (F ++ l.drop i).length = l.length := by rw [List.length_append, List.length_drop]; omega
   have hx : (F ++ l.drop i)[j]? = some l[j] := by
    rw [List.getElem?_append_right (by omega), List.getElem?_drop]
    rw [show i + (j - F.length) = j by omega]
    exact List.getElem?_eq_getElem hlt
   have hch := zav (f := ntC) (k := 2) (fun _ => rfl) hx
   have hle := zau (f := ntC) (k := 2) (fun _ => rfl) (l := F ++ l.drop i) (i := j) (by omega)
   have hle2 := zau (f := ntC) (k := 2) (fun _ => rfl) (l := F ++ l.drop i) (i := i) (by omega)
   have hset := fm_set (f := ntC) (k := 2) (fun _ => rfl) F (l[i]'(by omega)) l[j] (l.drop (i + 1))
   rw [← drop_at (by omega), hFl] at hset
   have hC := hq l[j]
   have hFj := zeu (fun x => !q x) hlt
   rw [← hF] at hFj
   generalize hxx : (l[j]'(by omega)) = x at *
   generalize hR : (F ++ l.drop i).flatMap ntC = R at *
   refine G [7] ?_
   refine zac (zai U58 sz27 (by omega) (by omega) (by first | (simp only [Int.toNat_natCast, Nat.mul_one, Nat.zero_add]; rfl) | rfl)) rfl rfl ⟨rfl, trivial⟩ ?_
   refine zac (zeA U27 rfl sz27 (by omega) (hch)) rfl rfl ⟨rfl, trivial⟩ ?_
   refine zac (zaV 7 zr27 rfl) rfl rfl ⟨rfl, trivial⟩ ?_
   refine zac (zap (Y := .agg ((ntC x).map AV.p)) sz27 rfl rfl (Nat.eq_of_beq_eq_true rfl)) rfl rfl ⟨rfl, trivial⟩ ?_
   refine zaf ?_
   rcases hc : q x with _ | _
   ·rw [hc] at hC
    simp only [hc, Bool.not_false, if_true] at hFj
    refine G [4] ?_
    refine cK hC ?_
    refine G [8] ?_
    refine zac (zai U58 sz27 (by omega) (by omega) (by first | (simp only [Int.toNat_natCast, Nat.mul_one, Nat.zero_add]; rfl) | rfl)) rfl rfl ⟨rfl, trivial⟩ ?_
    refine zac (zbG (Y := .agg ((ntC x).map AV.p)) (ys := ntC x) sz27 rfl rfl rfl (by omega) hset) rfl rfl ⟨rfl, trivial⟩ ?_
    refine G [3] ?_
    refine zaa (zas (by first | exact IntWalk.i64_in _ (by omega) | rfl)) rfl rfl ?_
    refine G [4] ?_
    refine zaa (zas (by first | exact IntWalk.i64_in _ (by omega) | rfl)) rfl rfl ?_
    refine G [2, 9, 0] ?_
    refine ⟨m - 1, by omega, _, zak id [(0, .row 0), (1, .fn 86 [.ptr K]), (5, .p (.v (.int .i64 (i + 1 : Nat)))), (6, .p (.v (.int .i64 (j + 1 : Nat))))] [(0, .row 27 2 l.length (((F ++ [x]) ++ l.drop (i + 1)).flatMap ntC))] ?_ ?_ rfl, j + 1, i + 1, F ++ [x], by omega, hFj.symm, by rw [List.length_append]; simp; omega, by omega, rfl⟩
    ·(repeat (first | exact trivial | (refine ⟨⟨(by first | rfl | (simp; done) | (simp; omega)), rfl⟩, ?_⟩)))
    ·exact ⟨⟨rfl, rfl⟩, trivial⟩
   ·rw [hc] at hC
    simp only [hc, Bool.not_true, Bool.false_eq_true, if_false, List.append_nil] at hFj
    refine G [4] ?_
    refine cK hC ?_
    refine G [6] ?_
    refine zaa (zas (by first | exact IntWalk.i64_in _ (by omega) | rfl)) rfl rfl ?_
    refine G [2, 9, 0] ?_
    refine ⟨m - 1, by omega, _, zak id [(0, .row 0), (1, .fn 86 [.ptr K]), (5, .p (.v (.int .i64 i))), (6, .p (.v (.int .i64 (j + 1 : Nat))))] [(0, .row 27 2 l.length R)] ?_ ?_ rfl, j + 1, i, F, by omega, hFj.symm, hFl, by omega, by rw [hR]⟩
    ·(repeat (first | exact trivial | (refine ⟨⟨(by first | rfl | (simp; done) | (simp; omega)), rfl⟩, ?_⟩)))
    ·exact ⟨⟨rfl, rfl⟩, trivial⟩
  have hge : j = l.length := by simp at h; omega
  clear h
  have hF' : F = l.filter (fun x => !q x) := by rw [hF, hge, List.take_length]
  have hRl : ((F ++ l.drop i).flatMap ntC).length = l.length * 2 := by rw [zat (f := ntC) (k := 2) (fun _ => rfl), List.length_append, List.length_drop]; congr 1; omega
  have hFc : (F.flatMap ntC).length = i * 2 := by rw [zat (f := ntC) (k := 2) (fun _ => rfl), hFl]
  rw [← hF', hFl]
  obtain ⟨R, hR⟩ : ∃ R, (F ++ l.drop i).flatMap ntC = R := ⟨_, rfl⟩
  have hhead : R.take (i * 2) = F.flatMap ntC := by
   rw [← hR, List.flatMap_append, ← hFc, List.take_left]
  rw [hR] at hRl ⊢
  refine G [2] ?_
  refine zbr (zdo 0 rfl) ?_
  skip
  refine G [3] ?_
  refine zac (za7 (L := (some (_, _))) (H := none) U58 sz27 ⟨by omega, rfl⟩ rfl (by omega) (by omega) rfl rfl) rfl rfl ⟨rfl, trivial⟩ ?_
  refine zac (a_clearRA (m := l.length - i) (size := 2) U58 zc27 rfl rfl (by omega) (by rw [List.length_map]; omega) rfl) rfl rfl ⟨rfl, trivial⟩ ?_
  refine G [5] ?_
  refine zac (ze9 (o' := 41) (h := i) (H := some (.i64, (i : Int))) U58 sz27 ⟨by omega, by simp⟩ (by omega) (zs := (F.flatMap ntC).map AV.p) (by rw [Int.toNat_natCast, setR_head (by rw [List.length_map]; omega), ← List.map_take, hhead])) rfl rfl ⟨rfl, rfl, trivial⟩ ?_
  refine G [2] ?_
  refine zba (zcj 41 (cs := F.flatMap ntC) rfl) ?_
  refine za2 ?_
  refine yT (fun _ => 41) ?_ ?_
  ·exact rfl
  ·exact ⟨⟨rfl, rfl⟩, trivial⟩
 ·rw [if_neg h0] at hI
  have hall := idx_not h0
  rw [zeS hall]
  clear hq hall
  refine zcV func85 rfl (Nat.le_of_ble_eq_true rfl) fun w0 A => ?_
  refine G [8] ?_
  refine cV hI ?_
  refine G [6] ?_
  refine zaa (zaA (c := true) (by simp)) rfl rfl ?_
  refine G [8, 9, 0] ?_
  refine yT (fun _ => 0) ?_ ?_
  ·exact rfl
  ·exact ⟨⟨rfl, rfl⟩, trivial⟩
theorem ixP_s (l : List PK) (k : ByteArray) (hn : l.length ≤ 1048576) : Fn prog 84 [.p (.sl l.length 5 (l.flatMap pkC)), .fn 53 [.ptr ([PV.v (.string k)] : List PV)]] (.p (.v (.int .i64 (fI (fun p => decide (p.1 = k)) l)))) [] := by
 have hq := fun x => clP_s x k
 generalize ([PV.v (.string k)] : List PV) = K at *
 obtain ⟨q, hqd⟩ : ∃ q : PK → Bool, q = fun p => decide (p.1 = k) := ⟨_, rfl⟩
 rw [← hqd]
 replace hq : ∀ x, Fn prog 53 [.agg ((pkC x).map AV.p), .ptr K] (.p (.v (.bool (q x)))) [] := fun x => by rw [hqd]; exact hq x
 clear hqd
 refine fnI fun w0 A => ?_
 refine G [8] ?_
 refine zaa (zaL U22) rfl rfl ?_
 refine G [3] ?_
 refine zal (fun m st => ∃ i : Nat, m + i = l.length ∧ i ≤ l.findIdx q ∧ st = St.of [(0, .p (.sl l.length 5 (l.flatMap pkC))), (1, .fn 53 [.ptr K]), (7, .p (.v (.int .i64 l.length))), (8, .p (.v (.int .i64 i)))] []) l.length ?_ ?_
 ·refine ⟨_, zak id _ _ ?_ ?_ rfl, 0, by omega, by omega, rfl⟩
  ·(repeat (first | exact trivial | (refine ⟨⟨(by first | rfl | (simp; done) | (simp; omega)), rfl⟩, ?_⟩)))
  ·exact trivial
 rintro m st ⟨i, hi, hb, rfl⟩
 refine G [5] ?_
 refine zab _ rfl (fun h => ?_) (fun h => ?_)
 ·have hlt : i < l.length := by simp at h; omega
  clear h
  have hx : l[i]? = some (l[i]'(by omega)) := List.getElem?_eq_getElem (by omega)
  have hch := zav (f := pkC) (k := 5) (fun _ => rfl) hx
  have hle := zau (f := pkC) (k := 5) (fun _ => rfl) hlt
  have hC := hq (l[i]'(by omega))
  have hyes : q (l[i]'(by omega)) = true → fI q l = i := fun h => by
   have h1 : l.findIdx q ≤ i := by
    rcases Nat.lt_or_ge i (l.findIdx q) with h2 | h2
    ·have := List.not_of_lt_findIdx (p := q) (xs := l) h2
     rw [h] at this; simp at this
    ·exact h2
   have h2 : l.findIdx q = i := by omega
   unfold fI; rw [h2, if_pos hlt]
  have hno : q (l[i]'(by omega)) = false → i + 1 ≤ l.findIdx q := fun h => by
   rcases Nat.lt_or_ge i (l.findIdx q) with h2 | h2
   ·exact h2
   ·have h3 : l.findIdx q = i := by omega
    have h4 : q (l[l.findIdx q]'(by omega)) = true := List.findIdx_getElem
    simp only [h3] at h4
    rw [h4] at h; cases h
  generalize hxx : (l[i]'(by omega)) = x at *
  generalize l.flatMap pkC = L at *
  refine G [8] ?_
  rcases hc : q x with _ | _
  ·rw [hc] at hC
   refine G [5] ?_
   refine zaa (zad U22 sz60 (by omega) (by omega) rfl) rfl rfl ?_
   refine zaa (zaq U60 rfl sz60 (by first | omega | (simp; done) | (simp; omega)) (hch)) rfl rfl ?_
   refine cK hC ?_
   refine G [4] ?_
   refine zaa (zas (by first | exact IntWalk.i64_in _ (by omega) | rfl)) rfl rfl ?_
   refine G [2, 9, 0] ?_
   refine ⟨m - 1, by omega, _, zak id _ _ ?_ ?_ rfl, i + 1, by omega, hno hc, rfl⟩
   ·(repeat (first | exact trivial | (refine ⟨⟨(by first | rfl | (simp; done) | (simp; omega)), rfl⟩, ?_⟩)))
   ·exact trivial
  ·rw [hyes hc]
   rw [hc] at hC
   refine G [5] ?_
   refine zaa (zad U22 sz60 (by omega) (by omega) rfl) rfl rfl ?_
   refine zaa (zaq U60 rfl sz60 (by first | omega | (simp; done) | (simp; omega)) (hch)) rfl rfl ?_
   refine cK hC ?_
   refine G [8, 9, 0] ?_
   exact yE
 have hge : i = l.length := by simp at h; omega
 clear h
 have hI : fI q l = -1 := by unfold fI; rw [if_neg (by omega)]
 rw [hI]
 refine G [6, 9, 0] ?_
 exact yE
set_option maxHeartbeats 4000000 in
theorem delP_s (l : List PK) (k : ByteArray) (hn : l.length ≤ 1048576) : FnR prog 52 [.row 0, .fn 53 [.ptr ([PV.v (.string k)] : List PV)]] [(0, .row 60 5 l.length (l.flatMap pkC))] (.row 1) [(1, .row 60 5 (l.filter (fun x => !(fun p => decide (p.1 = k)) x)).length ((l.filter (fun x => !(fun p => decide (p.1 = k)) x)).flatMap pkC))] := by
 have hI := ixP_s l k hn
 have hq := fun x => clP_s x k
 generalize ([PV.v (.string k)] : List PV) = K at *
 obtain ⟨q, hqd⟩ : ∃ q : PK → Bool, q = fun p => decide (p.1 = k) := ⟨_, rfl⟩
 rw [← hqd] at hI ⊢
 replace hq : ∀ x, Fn prog 53 [.agg ((pkC x).map AV.p), .ptr K] (.p (.v (.bool (q x)))) [] := fun x => by rw [hqd]; exact hq x
 clear hqd
 unfold fI at hI
 have hL0 : (l.flatMap pkC).length = l.length * 5 := zat (f := pkC) (k := 5) (fun _ => rfl) l
 by_cases h0 : l.findIdx q < l.length
 ·rw [if_pos h0] at hI
  have hF0 := zfT h0
  generalize hi0 : l.findIdx q = i0 at *
  refine zcV func52 rfl (Nat.le_of_ble_eq_true rfl) fun w0 A => ?_
  refine G [8] ?_
  refine cV hI ?_
  refine G [6] ?_
  refine zaa (zaA (c := false) (by first | (simp; done) | (simp; omega))) rfl rfl ?_
  refine G [7] ?_
  refine zaa (zas (by first | exact IntWalk.i64_in _ (by omega) | rfl)) rfl rfl ?_
  refine G [3] ?_
  refine zal (fun m st => ∃ j i : Nat, ∃ F : List PK, m + j = l.length ∧ F = (l.take j).filter (fun x => !q x) ∧ F.length = i ∧ i < j ∧ st = St.of [(0, .row 0), (1, .fn 53 [.ptr K]), (5, .p (.v (.int .i64 i))), (6, .p (.v (.int .i64 j)))] [(0, .row 60 5 l.length ((F ++ l.drop i).flatMap pkC))]) (l.length - (i0 + 1)) ?_ ?_
  ·refine ⟨_, zak id [(0, .row 0), (1, .fn 53 [.ptr K]), (5, .p (.v (.int .i64 i0))), (6, .p (.v (.int .i64 (i0 + 1 : Nat))))] [(0, .row 60 5 l.length (l.flatMap pkC))] ?_ ?_ rfl, i0 + 1, i0, l.take i0, by omega, hF0.symm, by rw [List.length_take]; omega, by omega, by rw [List.take_append_drop]⟩
   ·(repeat (first | exact trivial | (refine ⟨⟨(by first | rfl | (simp; done) | (simp; omega)), rfl⟩, ?_⟩)))
   ·exact ⟨⟨rfl, rfl⟩, trivial⟩
  rintro m st ⟨j, i, F, hm, hF, hFl, hij, rfl⟩
  refine G [5] ?_
  refine zac (zaG U22) rfl rfl ⟨rfl, trivial⟩ ?_
  refine G [2, 9, 0] ?_
  refine zab _ rfl (fun h => ?_) (fun h => ?_)
  ·have hlt : j < l.length := by simp at h; omega
   clear h
   have hRl : (F ++ l.drop i).length = l.length := by rw [List.length_append, List.length_drop]; omega
   have hx : (F ++ l.drop i)[j]? = some l[j] := by
    rw [List.getElem?_append_right (by omega), List.getElem?_drop]
    rw [show i + (j - F.length) = j by omega]
    exact List.getElem?_eq_getElem hlt
   have hch := zav (f := pkC) (k := 5) (fun _ => rfl) hx
   have hle := zau (f := pkC) (k := 5) (fun _ => rfl) (l := F ++ l.drop i) (i := j) (by omega)
   have hle2 := zau (f := pkC) (k := 5) (fun _ => rfl) (l := F ++ l.drop i) (i := i) (by omega)
   have hset := fm_set (f := pkC) (k := 5) (fun _ => rfl) F (l[i]'(by omega)) l[j] (l.drop (i + 1))
   rw [← drop_at (by omega), hFl] at hset
   have hC := hq l[j]
   have hFj := zeu (fun x => !q x) hlt
   rw [← hF] at hFj
   generalize hxx : (l[j]'(by omega)) = x at *
   generalize hR : (F ++ l.drop i).flatMap pkC = R at *
   refine G [7] ?_
   refine zac (zai U22 sz60 (by omega) (by omega) (by first | (simp only [Int.toNat_natCast, Nat.mul_one, Nat.zero_add]; rfl) | rfl)) rfl rfl ⟨rfl, trivial⟩ ?_
   refine zac (zeA U60 rfl sz60 (by omega) (hch)) rfl rfl ⟨rfl, trivial⟩ ?_
   refine zac (zaV 7 zr60 rfl) rfl rfl ⟨rfl, trivial⟩ ?_
   refine zac (zap (Y := .agg ((pkC x).map AV.p)) sz60 rfl rfl (Nat.eq_of_beq_eq_true rfl)) rfl rfl ⟨rfl, trivial⟩ ?_
   refine zaf ?_
   rcases hc : q x with _ | _
   ·rw [hc] at hC
    simp only [hc, Bool.not_false, if_true] at hFj
    refine G [4] ?_
    refine cK hC ?_
    refine G [8] ?_
    refine zac (zai U22 sz60 (by omega) (by omega) (by first | (simp only [Int.toNat_natCast, Nat.mul_one, Nat.zero_add]; rfl) | rfl)) rfl rfl ⟨rfl, trivial⟩ ?_
    refine zac (zbG (Y := .agg ((pkC x).map AV.p)) (ys := pkC x) sz60 rfl rfl rfl (by omega) hset) rfl rfl ⟨rfl, trivial⟩ ?_
    refine G [3] ?_
    refine zaa (zas (by first | exact IntWalk.i64_in _ (by omega) | rfl)) rfl rfl ?_
    refine G [4] ?_
    refine zaa (zas (by first | exact IntWalk.i64_in _ (by omega) | rfl)) rfl rfl ?_
    refine G [2, 9, 0] ?_
    refine ⟨m - 1, by omega, _, zak id [(0, .row 0), (1, .fn 53 [.ptr K]), (5, .p (.v (.int .i64 (i + 1 : Nat)))), (6, .p (.v (.int .i64 (j + 1 : Nat))))] [(0, .row 60 5 l.length (((F ++ [x]) ++ l.drop (i + 1)).flatMap pkC))] ?_ ?_ rfl, j + 1, i + 1, F ++ [x], by omega, hFj.symm, by rw [List.length_append]; simp; omega, by omega, rfl⟩
    ·(repeat (first | exact trivial | (refine ⟨⟨(by first | rfl | (simp; done) | (simp; omega)), rfl⟩, ?_⟩)))
    ·exact ⟨⟨rfl, rfl⟩, trivial⟩
   ·rw [hc] at hC
    simp only [hc, Bool.not_true, Bool.false_eq_true, if_false, List.append_nil] at hFj
    refine G [4] ?_
    refine cK hC ?_
    refine G [6] ?_
    refine zaa (zas (by first | exact IntWalk.i64_in _ (by omega) | rfl)) rfl rfl ?_
    refine G [2, 9, 0] ?_
    refine ⟨m - 1, by omega, _, zak id [(0, .row 0), (1, .fn 53 [.ptr K]), (5, .p (.v (.int .i64 i))), (6, .p (.v (.int .i64 (j + 1 : Nat))))] [(0, .row 60 5 l.length R)] ?_ ?_ rfl, j + 1, i, F, by omega, hFj.symm, hFl, by omega, by rw [hR]⟩
    ·(repeat (first | exact trivial | (refine ⟨⟨(by first | rfl | (simp; done) | (simp; omega)), rfl⟩, ?_⟩)))
    ·exact ⟨⟨rfl, rfl⟩, trivial⟩
  have hge : j = l.length := by simp at h; omega
  clear h
  have hF' : F = l.filter (fun x => !q x) := by rw [hF, hge, List.take_length]
  have hRl : ((F ++ l.drop i).flatMap pkC).length = l.length * 5 := by rw [zat (f := pkC) (k := 5) (fun _ => rfl), List.length_append, List.length_drop]; congr 1; omega
  have hFc : (F.flatMap pkC).length = i * 5 := by rw [zat (f := pkC) (k := 5) (fun _ => rfl), hFl]
  rw [← hF', hFl]
  obtain ⟨R, hR⟩ : ∃ R, (F ++ l.drop i).flatMap pkC = R := ⟨_, rfl⟩
  have hhead : R.take (i * 5) = F.flatMap pkC := by
   rw [← hR, List.flatMap_append, ← hFc, List.take_left]
  rw [hR] at hRl ⊢
  refine G [2] ?_
  refine zbr (zdo 0 rfl) ?_
  skip
  refine G [3] ?_
  refine zac (za7 (L := (some (_, _))) (H := none) U22 sz60 ⟨by omega, rfl⟩ rfl (by omega) (by omega) rfl rfl) rfl rfl ⟨rfl, trivial⟩ ?_
  refine zac (a_clearRA (m := l.length - i) (size := 5) U22 zc60 rfl rfl (by omega) (by rw [List.length_map]; omega) rfl) rfl rfl ⟨rfl, trivial⟩ ?_
  refine G [5] ?_
  refine zac (ze9 (o' := 41) (h := i) (H := some (.i64, (i : Int))) U22 sz60 ⟨by omega, by simp⟩ (by omega) (zs := (F.flatMap pkC).map AV.p) (by rw [Int.toNat_natCast, setR_head (by rw [List.length_map]; omega), ← List.map_take, hhead])) rfl rfl ⟨rfl, rfl, trivial⟩ ?_
  refine G [2] ?_
  refine zba (zcj 41 (cs := F.flatMap pkC) rfl) ?_
  refine za2 ?_
  refine yT (fun _ => 41) ?_ ?_
  ·exact rfl
  ·exact ⟨⟨rfl, rfl⟩, trivial⟩
 ·rw [if_neg h0] at hI
  have hall := idx_not h0
  rw [zeS hall]
  clear hq hall
  refine zcV func52 rfl (Nat.le_of_ble_eq_true rfl) fun w0 A => ?_
  refine G [8] ?_
  refine cV hI ?_
  refine G [6] ?_
  refine zaa (zaA (c := true) (by simp)) rfl rfl ?_
  refine G [8, 9, 0] ?_
  refine yT (fun _ => 0) ?_ ?_
  ·exact rfl
  ·exact ⟨⟨rfl, rfl⟩, trivial⟩
end Go.Proofs.YtkdfdcodkeclmaaGreatDoor
