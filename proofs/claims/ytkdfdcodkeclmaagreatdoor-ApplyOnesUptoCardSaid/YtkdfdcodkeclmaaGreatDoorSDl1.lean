/- slices.IndexFunc and slices.DeleteFunc, over data. -/
import Derived.Test.YtkdfdcodkeclmaaGreatDoorSRc
import Derived.Test.YtkdfdcodkeclmaaGreatDoorSCf5
import Derived.Test.YtkdfdcodkeclmaaGreatDoorSCf3
namespace Go.Proofs.YtkdfdcodkeclmaaGreatDoor
open Go.RowKit Go.Sort
set_option linter.unusedVariables false
set_option linter.unusedSimpArgs false
set_option maxRecDepth 100000
theorem fm_push {α β : Type} (f : α → List β) (F : List α) (x : α) (L : List α) : (F ++ x :: L).flatMap f = F.flatMap f ++ (f x ++ L.flatMap f) := by
 simp [List.flatMap_append]
theorem fm_set {α β : Type} {f : α → List β} {k : Nat} (hf : ∀ x, (f x).length = k) (F : List α) (y x : α) (L : List α) : setR ((F ++ y :: L).flatMap f) (F.length * k) (f x) = ((F ++ [x]) ++ L).flatMap f := by
 have h1 : (F.flatMap f).length = F.length * k := zaP hf F
 rw [fm_push]
 unfold setR
 rw [← h1, List.take_left, hf, ← hf y, List.append_assoc]
 rw [show F.flatMap f ++ (f y ++ L.flatMap f) = (F.flatMap f ++ f y) ++ L.flatMap f by rw [List.append_assoc]]
 rw [show (F.flatMap f).length + (f y).length = (F.flatMap f ++ f y).length by rw [List.length_append]]
 rw [List.drop_left]
 simp [List.flatMap_append]
theorem setR_head {α : Type} {l vs : List α} {d : Nat} (h : d ≤ l.length) : (setR l d vs).take d = l.take d := by
 unfold setR
 rw [List.append_assoc, List.take_append_of_le_length (by rw [List.length_take]; omega), List.take_take, Nat.min_self]
theorem drop_at {α : Type} {l : List α} {i : Nat} (h : i < l.length) : l.drop i = l[i] :: l.drop (i + 1) := (List.drop_eq_getElem_cons h)
theorem zeu {α : Type} (q : α → Bool) {l : List α} {j : Nat} (h : j < l.length) : (l.take (j + 1)).filter q = (l.take j).filter q ++ (if q l[j] then [l[j]] else []) := by
 rw [List.take_succ_eq_append_getElem h, List.filter_append]
 congr 1
 cases hq : q l[j] <;> simp [List.filter, hq]
theorem idx_not {α : Type} {q : α → Bool} {l : List α} (h : ¬ l.findIdx q < l.length) : ∀ x ∈ l, q x = false := fun x hx => by
 rcases hq : q x with _ | _
 ·rfl
 ·exact absurd (List.findIdx_lt_length_of_exists ⟨x, hx, hq⟩) h
theorem zeP {α : Type} {q : α → Bool} {l : List α} (h : ∀ x ∈ l, q x = false) : l.filter (fun x => !q x) = l := List.filter_eq_self.2 fun x hx => by simp [h x hx]
theorem zfG {α : Type} {q : α → Bool} {l : List α} (h : l.findIdx q < l.length) : (l.take (l.findIdx q + 1)).filter (fun x => !q x) = l.take (l.findIdx q) := by
 rw [zeu _ h]
 have h1 : q l[l.findIdx q] = true := List.findIdx_getElem
 rw [zeP]
 ·simp [h1]
 ·intro x hx
  obtain ⟨i, hi, rfl⟩ := List.mem_iff_getElem.1 hx
  rw [List.length_take] at hi
  rw [List.getElem_take]
  have := List.not_of_lt_findIdx (p := q) (xs := l) (i := i) (by omega)
  simpa using this
def fI {α : Type} (q : α → Bool) (l : List α) : Int := if l.findIdx q < l.length then l.findIdx q else -1
abbrev PK := ByteArray × Value × Value × Value × Value
def pkC (p : PK) : List PV := [.v (.string p.1), .v p.2.1, .v p.2.2.1, .v p.2.2.2.1, .v p.2.2.2.2]
theorem clN_s (m n : NtP) : Fn Tryz.prog 86 [.agg ((ntC m).map AV.p), .ptr (ntC n)] (.p (.v (.bool (decide (m = n))))) [] := by
 show Fn Tryz.prog _ [.agg [.p (.v (.int .u32 m.1)), .p (.v (.int .i64 m.2))], .ptr [.v (.int .u32 n.1), .v (.int .i64 n.2)]] _ _
 refine zaq Tryz.func86 rfl (Nat.le_of_ble_eq_true rfl) fun w0 A => ?_
 refine zaa ?_
 refine tx ?_
 refine zag (zaD (X := .agg _) 2 rfl) rfl rfl ⟨rfl, trivial⟩ ?_
 refine yA ?_
 refine zab ?_
 refine zaa ?_
 refine tx ?_
 refine lN Tryz.underlying27 rfl sz27 rfl rfl ⟨rfl, trivial⟩ ?_
 refine zac (zaN Tryz.underlying27 rfl sz27 (by first | omega | (simp; done) | (simp; omega)) (rfl)) rfl rfl ?_
 refine zac (zgx Tryz.underlying27 rfl rfl (by kernel_rfl) (by kernel_rfl) (by kernel_rfl) (c := decide (m = n)) (zcK ..)) rfl rfl ?_
 refine yA ?_
 refine zab ?_
 refine zah ?_
 refine yT ?_ ?_
 ·exact rfl
 ·exact trivial
theorem clP_s (p : PK) (k : ByteArray) : Fn Tryz.prog 53 [.agg ((pkC p).map AV.p), .ptr [.v (.string k)]] (.p (.v (.bool (decide (p.1 = k))))) [] := by
 show Fn Tryz.prog _ [.agg [.p (.v (.string p.1)), .p (.v p.2.1), .p (.v p.2.2.1), .p (.v p.2.2.2.1), .p (.v p.2.2.2.2)], .ptr [.v (.string k)]] _ _
 refine zaq Tryz.func53 rfl (Nat.le_of_ble_eq_true rfl) fun w0 A => ?_
 refine zaa ?_
 refine tx ?_
 refine zag (zaD (X := .agg _) 2 rfl) rfl rfl ⟨rfl, trivial⟩ ?_
 refine yA ?_
 refine zab ?_
 refine zaa ?_
 refine tx ?_
 refine yF zby ?_
 refine yL Tryz.underlying9 ?_
 refine zac (zdl Tryz.underlying9 rfl (by first | rfl | assumption | ((try simp only [List.getElem?_drop, List.getElem?_take, Int.toNat_natCast, Nat.mul_one, Nat.add_zero, Nat.zero_add]); first | assumption | rfl))) rfl rfl ?_
 refine yP zeA ?_
 refine yA ?_
 refine zab ?_
 refine zah ?_
 refine yT ?_ ?_
 ·exact rfl
 ·exact trivial
theorem ixN_s (l : List NtP) (n : NtP) (hn : l.length ≤ 1048576) : Fn Tryz.prog 119 [.p (.sl l.length 2 (l.flatMap ntC)), .fn 86 [.ptr (ntC n)]] (.p (.v (.int .i64 (fI (fun m => decide (m = n)) l)))) [] := by
 have hq := fun x => clN_s x n
 generalize (ntC n) = K at *
 obtain ⟨q, hqd⟩ : ∃ q : NtP → Bool, q = fun m => decide (m = n) := ⟨_, rfl⟩
 rw [← hqd]
 replace hq : ∀ x, Fn Tryz.prog 86 [.agg ((ntC x).map AV.p), .ptr K] (.p (.v (.bool (q x)))) [] := fun x => by rw [hqd]; exact hq x
 clear hqd
 refine zaq Tryz.func119 rfl (Nat.le_of_ble_eq_true rfl) fun w0 A => ?_
 refine zaa ?_
 refine tx ?_
 refine yA ?_
 refine zab ?_
 refine zaa (zaa ?_)
 refine tx ?_
 refine yM ?_
 refine yP (zbi Tryz.underlying58) ?_
 refine yM ?_
 refine zab ?_
 refine zaj ?_
 refine zaK (fun m st => ∃ i : Nat, m + i = l.length ∧ i ≤ l.findIdx q ∧ st = St.of [(0, .p (.sl l.length 2 (l.flatMap ntC))), (1, .fn 86 [.ptr K]), (7, .p (.v (.int .i64 l.length))), (8, .p (.v (.int .i64 i)))] []) l.length ?_ ?_
 ·refine ⟨_, zaF id _ _ ?_ ?_ rfl, 0, by omega, by omega, rfl⟩
  ·(repeat (first | exact trivial | (refine ⟨⟨(by first | rfl | (simp; done) | (simp; omega)), rfl⟩, ?_⟩)))
  ·exact trivial
 rintro m st ⟨i, hi, hb, rfl⟩
 refine zaa ?_
 refine tx ?_
 refine yP za4 ?_
 refine zab ?_
 refine zaa ?_
 refine zan _ rfl (fun h => ?_) (fun h => ?_)
 ·have hlt : i < l.length := by simp at h; omega
  clear h
  have hx : l[i]? = some (l[i]'(by omega)) := List.getElem?_eq_getElem (by omega)
  have hch := zaV (f := ntC) (k := 2) (fun _ => rfl) hx
  have hle := zaS (f := ntC) (k := 2) (fun _ => rfl) hlt
  have hC := hq (l[i]'(by omega))
  have hyes : q (l[i]'(by omega)) = true → fI q l = i := fun h => by
   have h1 : l.findIdx q ≤ i := by
    rcases Nat.lt_or_ge i (l.findIdx q) with h2 | h2
    ·have := List.not_of_lt_findIdx (p := q) (xs := l) h2
     rw [h] at this; simp at this
    ·exact h2
   have h2 : l.findIdx q = i := by omega
   unfold fI; rw [h2, if_pos hlt]
  have hno : q (l[i]'(by omega)) = false → i + 1 ≤ l.findIdx q := fun h => by
   rcases Nat.lt_or_ge i (l.findIdx q) with h2 | h2
   ·exact h2
   ·have h3 : l.findIdx q = i := by omega
    have h4 : q (l[l.findIdx q]'(by omega)) = true := List.findIdx_getElem
    simp only [h3] at h4
    rw [h4] at h; cases h
  generalize hxx : (l[i]'(by omega)) = x at *
  generalize l.flatMap ntC = L at *
  refine zad (zaa (zaj (zaa ?_)))
  refine tx ?_
  refine yM ?_
  refine yA ?_
  refine zab ?_
  rcases hc : q x with _ | _
  ·rw [hc] at hC
   refine zaa ?_
   refine tx ?_
   refine yP (zal (r := .fn _ _)) ?_
   refine yM ?_
   refine yM ?_
   refine zac (zax Tryz.underlying58 sz27 (by omega) (by omega) rfl) rfl rfl ?_
   refine zac (zaN Tryz.underlying27 rfl sz27 (by first | omega | (simp; done) | (simp; omega)) (hch)) rfl rfl ?_
   refine cS (fun n => 16 + 1000 * n) (hC) Tryz.func86 ?_
   refine zab ?_
   refine zae ?_
   refine zaf rfl ?_
   refine zad (zba (zae ?_))
   refine tx ?_
   refine zac (za1 (by first | exact IntWalk.i64_in _ (by omega) | rfl)) rfl rfl ?_
   refine yM ?_
   refine zab ?_
   refine zae ?_
   refine ⟨m - 1, by omega, _, zaF id _ _ ?_ ?_ rfl, i + 1, by omega, hno hc, rfl⟩
   ·(repeat (first | exact trivial | (refine ⟨⟨(by first | rfl | (simp; done) | (simp; omega)), rfl⟩, ?_⟩)))
   ·exact trivial
  ·rw [hyes hc]
   rw [hc] at hC
   refine zaa ?_
   refine tx ?_
   refine yP (zal (r := .fn _ _)) ?_
   refine yM ?_
   refine yM ?_
   refine zac (zax Tryz.underlying58 sz27 (by omega) (by omega) rfl) rfl rfl ?_
   refine zac (zaN Tryz.underlying27 rfl sz27 (by first | omega | (simp; done) | (simp; omega)) (hch)) rfl rfl ?_
   refine cS (fun n => 16 + 1000 * n) (hC) Tryz.func86 ?_
   refine zab ?_
   refine zae ?_
   refine zat rfl ?_
   refine zaa ?_
   refine tx ?_
   refine yM ?_
   refine yA ?_
   refine zab ?_
   refine zah (zaR (zar (zar (zaR (zar ?_)))))
   refine yT ?_ ?_
   ·exact rfl
   ·exact trivial
 have hge : i = l.length := by simp at h; omega
 clear h
 have hI : fI q l = -1 := by unfold fI; rw [if_neg (by omega)]
 rw [hI]
 refine zaE (zaa ?_)
 refine tx ?_
 refine yA ?_
 refine zab ?_
 refine zah ?_
 refine yT ?_ ?_
 ·exact rfl
 ·exact trivial
set_option maxHeartbeats 4000000 in
theorem delN_s (l : List NtP) (n : NtP) (hn : l.length ≤ 1048576) : FnR Tryz.prog 85 [.row 0, .fn 86 [.ptr (ntC n)]] [(0, .row 27 2 l.length (l.flatMap ntC))] (.row 1) [(1, .row 27 2 (l.filter (fun x => !(fun m => decide (m = n)) x)).length ((l.filter (fun x => !(fun m => decide (m = n)) x)).flatMap ntC))] := by
 have hI := ixN_s l n hn
 have hq := fun x => clN_s x n
 generalize (ntC n) = K at *
 obtain ⟨q, hqd⟩ : ∃ q : NtP → Bool, q = fun m => decide (m = n) := ⟨_, rfl⟩
 rw [← hqd] at hI ⊢
 replace hq : ∀ x, Fn Tryz.prog 86 [.agg ((ntC x).map AV.p), .ptr K] (.p (.v (.bool (q x)))) [] := fun x => by rw [hqd]; exact hq x
 clear hqd
 unfold fI at hI
 have hL0 : (l.flatMap ntC).length = l.length * 2 := zaP (f := ntC) (k := 2) (fun _ => rfl) l
 by_cases h0 : l.findIdx q < l.length
 ·rw [if_pos h0] at hI
  have hF0 := zfG h0
  generalize hi0 : l.findIdx q = i0 at *
  refine zdb Tryz.func85 rfl (Nat.le_of_ble_eq_true rfl) fun w0 A => ?_
  refine zaa ?_
  refine tx ?_
  refine yA ?_
  refine zab ?_
  refine zaa ?_
  refine tx ?_
  refine yP (zal (r := .row _)) ?_
  refine yP (zal (r := .fn _ _)) ?_
  refine yV (fun n => 10 + 1000 * n) (hI) Tryz.func119 ?_
  refine yA ?_
  refine zab ?_
  refine zaa (zaa ?_)
  refine tx ?_
  refine yM ?_
  refine zac (zbs (c := false) (by first | (simp; done) | (simp; omega))) rfl rfl ?_
  refine zab ?_
  refine zae ?_
  refine zaf rfl ?_
  refine zad (zaa (zaa ?_))
  refine tx ?_
  refine yM ?_
  refine zac (za1 (by first | exact IntWalk.i64_in _ (by omega) | rfl)) rfl rfl ?_
  refine yA ?_
  refine zab ?_
  refine zaj ?_
  refine zaK (fun m st => ∃ j i : Nat, ∃ F : List NtP, m + j = l.length ∧ F = (l.take j).filter (fun x => !q x) ∧ F.length = i ∧ i < j ∧ st = St.of [(0, .row 0), (1, .fn 86 [.ptr K]), (5, .p (.v (.int .i64 i))), (6, .p (.v (.int .i64 j)))] [(0, .row 27 2 l.length ((F ++ l.drop i).flatMap ntC))]) (l.length - (i0 + 1)) ?_ ?_
  ·refine ⟨_, zaF id [(0, .row 0), (1, .fn 86 [.ptr K]), (5, .p (.v (.int .i64 i0))), (6, .p (.v (.int .i64 (i0 + 1 : Nat))))] [(0, .row 27 2 l.length (l.flatMap ntC))] ?_ ?_ rfl, i0 + 1, i0, l.take i0, by omega, hF0.symm, by rw [List.length_take]; omega, by omega, by rw [List.take_append_drop]⟩
   ·(repeat (first | exact trivial | (refine ⟨⟨(by first | rfl | (simp; done) | (simp; omega)), rfl⟩, ?_⟩)))
   ·exact ⟨⟨rfl, rfl⟩, trivial⟩
  rintro m st ⟨j, i, F, hm, hF, hFl, hij, rfl⟩
  refine zaa (zaa ?_)
  refine tx ?_
  refine yM ?_
  refine yP (zal (r := .row _)) ?_
  refine zag (za8 Tryz.underlying58) rfl rfl ⟨rfl, trivial⟩ ?_
  refine yP za4 ?_
  refine zab ?_
  refine zae ?_
  refine zan _ rfl (fun h => ?_) (fun h => ?_)
  ·have hlt : j < l.length := by simp at h; omega
   clear h
   have hRl : (F ++ l.drop i).length = l.length := by rw [List.length_append, List.length_drop]; omega
   have hx : (F ++ l.drop i)[j]? = some l[j] := by
    rw [List.getElem?_append_right (by omega), List.getElem?_drop]
    rw [show i + (j - F.length) = j by omega]
    exact List.getElem?_eq_getElem hlt
   have hch := zaV (f := ntC) (k := 2) (fun _ => rfl) hx
   have hle := zaS (f := ntC) (k := 2) (fun _ => rfl) (l := F ++ l.drop i) (i := j) (by omega)
   have hle2 := zaS (f := ntC) (k := 2) (fun _ => rfl) (l := F ++ l.drop i) (i := i) (by omega)
   have hset := fm_set (f := ntC) (k := 2) (fun _ => rfl) F (l[i]'(by omega)) l[j] (l.drop (i + 1))
   rw [← drop_at (by omega), hFl] at hset
   have hC := hq l[j]
   have hFj := zeu (fun x => !q x) hlt
   rw [← hF] at hFj
   generalize hxx : (l[j]'(by omega)) = x at *
   generalize hR : (F ++ l.drop i).flatMap ntC = R at *
   refine zad (zaa (zaj (zaa ?_)))
   refine tx ?_
   refine yP (zal (r := .row _)) ?_
   refine yM ?_
   refine zag (zaB Tryz.underlying58 sz27 (by omega) (by omega) (by first | (simp only [Int.toNat_natCast, Nat.mul_one, Nat.zero_add]; rfl) | rfl)) rfl rfl ⟨rfl, trivial⟩ ?_
   refine zag (zfg Tryz.underlying27 rfl sz27 (by omega) (hch)) rfl rfl ⟨rfl, trivial⟩ ?_
   refine zag (zaA 7 zr27 rfl) rfl rfl ⟨rfl, trivial⟩ ?_
   refine zag (zas (Y := .agg ((ntC x).map AV.p)) sz27 rfl rfl (Nat.eq_of_beq_eq_true rfl)) rfl rfl ⟨rfl, trivial⟩ ?_
   refine zab ?_
   rcases hc : q x with _ | _
   ·rw [hc] at hC
    simp only [hc, Bool.not_false, if_true] at hFj
    refine zaa ?_
    refine tx ?_
    refine yP (zal (r := .fn _ _)) ?_
    refine lN Tryz.underlying27 rfl sz27 rfl rfl ⟨rfl, trivial⟩ ?_
    refine cS (fun n => 28 + 1000 * n) (hC) Tryz.func86 ?_
    refine yP za5 ?_
    refine zab ?_
    refine zae ?_
    refine zat rfl ?_
    refine zaa ?_
    refine tx ?_
    refine yP (zal (r := .row _)) ?_
    refine yM ?_
    refine lN Tryz.underlying27 rfl sz27 rfl rfl ⟨rfl, trivial⟩ ?_
    refine zag (zaB Tryz.underlying58 sz27 (by omega) (by omega) (by first | (simp only [Int.toNat_natCast, Nat.mul_one, Nat.zero_add]; rfl) | rfl)) rfl rfl ⟨rfl, trivial⟩ ?_
    refine zag (zb0 (Y := .agg ((ntC x).map AV.p)) (ys := ntC x) sz27 rfl rfl rfl (by omega) hset) rfl rfl ⟨rfl, trivial⟩ ?_
    refine zab ?_
    refine zae ?_
    refine tx ?_
    refine yM ?_
    refine zac (za1 (by first | exact IntWalk.i64_in _ (by omega) | rfl)) rfl rfl ?_
    refine yA ?_
    refine zab ?_
    refine zba (zae ?_)
    refine tx ?_
    refine yM ?_
    refine zac (za1 (by first | exact IntWalk.i64_in _ (by omega) | rfl)) rfl rfl ?_
    refine yA ?_
    refine zab ?_
    refine zae ?_
    refine ⟨m - 1, by omega, _, zaF id [(0, .row 0), (1, .fn 86 [.ptr K]), (5, .p (.v (.int .i64 (i + 1 : Nat)))), (6, .p (.v (.int .i64 (j + 1 : Nat))))] [(0, .row 27 2 l.length (((F ++ [x]) ++ l.drop (i + 1)).flatMap ntC))] ?_ ?_ rfl, j + 1, i + 1, F ++ [x], by omega, hFj.symm, by rw [List.length_append]; simp; omega, by omega, rfl⟩
    ·(repeat (first | exact trivial | (refine ⟨⟨(by first | rfl | (simp; done) | (simp; omega)), rfl⟩, ?_⟩)))
    ·exact ⟨⟨rfl, rfl⟩, trivial⟩
   ·rw [hc] at hC
    simp only [hc, Bool.not_true, Bool.false_eq_true, if_false, List.append_nil] at hFj
    refine zaa ?_
    refine tx ?_
    refine yP (zal (r := .fn _ _)) ?_
    refine lN Tryz.underlying27 rfl sz27 rfl rfl ⟨rfl, trivial⟩ ?_
    refine cS (fun n => 28 + 1000 * n) (hC) Tryz.func86 ?_
    refine yP za5 ?_
    refine zab ?_
    refine zae ?_
    refine zaf rfl ?_
    refine zad (zba (zae ?_))
    refine tx ?_
    refine yM ?_
    refine zac (za1 (by first | exact IntWalk.i64_in _ (by omega) | rfl)) rfl rfl ?_
    refine yA ?_
    refine zab ?_
    refine zae ?_
    refine ⟨m - 1, by omega, _, zaF id [(0, .row 0), (1, .fn 86 [.ptr K]), (5, .p (.v (.int .i64 i))), (6, .p (.v (.int .i64 (j + 1 : Nat))))] [(0, .row 27 2 l.length R)] ?_ ?_ rfl, j + 1, i, F, by omega, hFj.symm, hFl, by omega, by rw [hR]⟩
    ·(repeat (first | exact trivial | (refine ⟨⟨(by first | rfl | (simp; done) | (simp; omega)), rfl⟩, ?_⟩)))
    ·exact ⟨⟨rfl, rfl⟩, trivial⟩
  have hge : j = l.length := by simp at h; omega
  clear h
  have hF' : F = l.filter (fun x => !q x) := by rw [hF, hge, List.take_length]
  have hRl : ((F ++ l.drop i).flatMap ntC).length = l.length * 2 := by rw [zaP (f := ntC) (k := 2) (fun _ => rfl), List.length_append, List.length_drop]; congr 1; omega
  have hFc : (F.flatMap ntC).length = i * 2 := by rw [zaP (f := ntC) (k := 2) (fun _ => rfl), hFl]
  rw [← hF', hFl]
  obtain ⟨R, hR⟩ : ∃ R, (F ++ l.drop i).flatMap ntC = R := ⟨_, rfl⟩
  have hhead : R.take (i * 2) = F.flatMap ntC := by
   rw [← hR, List.flatMap_append, ← hFc, List.take_left]
  rw [hR] at hRl ⊢
  refine zaE (zaa ?_)
  refine zbM (zdt 0 rfl) ?_
  skip
  refine tx ?_
  refine yP (zal (r := .row _)) ?_
  refine yM ?_
  refine zag (zbp (L := (some (_, _))) (H := none) Tryz.underlying58 sz27 ⟨by omega, rfl⟩ rfl (by omega) (by omega) rfl rfl) rfl rfl ⟨rfl, trivial⟩ ?_
  refine zag (a_clearRA (m := l.length - i) (size := 2) Tryz.underlying58 zc27 rfl rfl (by omega) (by rw [List.length_map]; omega) rfl) rfl rfl ⟨rfl, trivial⟩ ?_
  refine zab ?_
  refine zaa ?_
  refine tx ?_
  refine yP (zal (r := .row _)) ?_
  refine yM ?_
  refine zag (ze7 (o' := 41) (h := i) (H := some (.i64, (i : Int))) Tryz.underlying58 sz27 ⟨by omega, by simp⟩ (by omega) (zs := (F.flatMap ntC).map AV.p) (by rw [Int.toNat_natCast, setR_head (by rw [List.length_map]; omega), ← List.map_take, hhead])) rfl rfl ⟨rfl, rfl, trivial⟩ ?_
  refine yP (zao (r := .row _)) ?_
  refine zab ?_
  refine zbF (zcA 41 (cs := F.flatMap ntC) rfl) ?_
  refine zah ?_
  refine fT (fun _ => 41) (.tmp _ _ _ _ rfl .nil) ?_ ?_
  ·exact rfl
  ·exact ⟨⟨rfl, rfl⟩, trivial⟩
 ·rw [if_neg h0] at hI
  have hall := idx_not h0
  rw [zeP hall]
  clear hq hall
  refine zdb Tryz.func85 rfl (Nat.le_of_ble_eq_true rfl) fun w0 A => ?_
  refine zaa ?_
  refine tx ?_
  refine yA ?_
  refine zab ?_
  refine zaa ?_
  refine tx ?_
  refine yP (zal (r := .row _)) ?_
  refine yP (zal (r := .fn _ _)) ?_
  refine yV (fun n => 10 + 1000 * n) (hI) Tryz.func119 ?_
  refine yA ?_
  refine zab ?_
  refine zaa (zaa ?_)
  refine tx ?_
  refine yM ?_
  refine zac (zbs (c := true) (by simp)) rfl rfl ?_
  refine zab ?_
  refine zae ?_
  refine zat rfl ?_
  refine zaa ?_
  refine tx ?_
  refine yP (zal (r := .row _)) ?_
  refine yP (zao (r := .row _)) ?_
  refine zab ?_
  refine zah (zar ?_)
  refine fT (fun _ => 0) (.tmp _ _ _ _ rfl .nil) ?_ ?_
  ·exact rfl
  ·exact ⟨⟨rfl, rfl⟩, trivial⟩
theorem ixP_s (l : List PK) (k : ByteArray) (hn : l.length ≤ 1048576) : Fn Tryz.prog 84 [.p (.sl l.length 5 (l.flatMap pkC)), .fn 53 [.ptr ([PV.v (.string k)] : List PV)]] (.p (.v (.int .i64 (fI (fun p => decide (p.1 = k)) l)))) [] := by
 have hq := fun x => clP_s x k
 generalize ([PV.v (.string k)] : List PV) = K at *
 obtain ⟨q, hqd⟩ : ∃ q : PK → Bool, q = fun p => decide (p.1 = k) := ⟨_, rfl⟩
 rw [← hqd]
 replace hq : ∀ x, Fn Tryz.prog 53 [.agg ((pkC x).map AV.p), .ptr K] (.p (.v (.bool (q x)))) [] := fun x => by rw [hqd]; exact hq x
 clear hqd
 refine zaq Tryz.func84 rfl (Nat.le_of_ble_eq_true rfl) fun w0 A => ?_
 refine zaa ?_
 refine tx ?_
 refine yA ?_
 refine zab ?_
 refine zaa (zaa ?_)
 refine tx ?_
 refine yM ?_
 refine yP (zbi Tryz.underlying22) ?_
 refine yM ?_
 refine zab ?_
 refine zaj ?_
 refine zaK (fun m st => ∃ i : Nat, m + i = l.length ∧ i ≤ l.findIdx q ∧ st = St.of [(0, .p (.sl l.length 5 (l.flatMap pkC))), (1, .fn 53 [.ptr K]), (7, .p (.v (.int .i64 l.length))), (8, .p (.v (.int .i64 i)))] []) l.length ?_ ?_
 ·refine ⟨_, zaF id _ _ ?_ ?_ rfl, 0, by omega, by omega, rfl⟩
  ·(repeat (first | exact trivial | (refine ⟨⟨(by first | rfl | (simp; done) | (simp; omega)), rfl⟩, ?_⟩)))
  ·exact trivial
 rintro m st ⟨i, hi, hb, rfl⟩
 refine zaa ?_
 refine tx ?_
 refine yP za4 ?_
 refine zab ?_
 refine zaa ?_
 refine zan _ rfl (fun h => ?_) (fun h => ?_)
 ·have hlt : i < l.length := by simp at h; omega
  clear h
  have hx : l[i]? = some (l[i]'(by omega)) := List.getElem?_eq_getElem (by omega)
  have hch := zaV (f := pkC) (k := 5) (fun _ => rfl) hx
  have hle := zaS (f := pkC) (k := 5) (fun _ => rfl) hlt
  have hC := hq (l[i]'(by omega))
  have hyes : q (l[i]'(by omega)) = true → fI q l = i := fun h => by
   have h1 : l.findIdx q ≤ i := by
    rcases Nat.lt_or_ge i (l.findIdx q) with h2 | h2
    ·have := List.not_of_lt_findIdx (p := q) (xs := l) h2
     rw [h] at this; simp at this
    ·exact h2
   have h2 : l.findIdx q = i := by omega
   unfold fI; rw [h2, if_pos hlt]
  have hno : q (l[i]'(by omega)) = false → i + 1 ≤ l.findIdx q := fun h => by
   rcases Nat.lt_or_ge i (l.findIdx q) with h2 | h2
   ·exact h2
   ·have h3 : l.findIdx q = i := by omega
    have h4 : q (l[l.findIdx q]'(by omega)) = true := List.findIdx_getElem
    simp only [h3] at h4
    rw [h4] at h; cases h
  generalize hxx : (l[i]'(by omega)) = x at *
  generalize l.flatMap pkC = L at *
  refine zad (zaa (zaj (zaa ?_)))
  refine tx ?_
  refine yM ?_
  refine yA ?_
  refine zab ?_
  rcases hc : q x with _ | _
  ·rw [hc] at hC
   refine zaa ?_
   refine tx ?_
   refine yP (zal (r := .fn _ _)) ?_
   refine yM ?_
   refine yM ?_
   refine zac (zax Tryz.underlying22 sz60 (by omega) (by omega) rfl) rfl rfl ?_
   refine zac (zaN Tryz.underlying60 rfl sz60 (by first | omega | (simp; done) | (simp; omega)) (hch)) rfl rfl ?_
   refine cS (fun n => 16 + 1000 * n) (hC) Tryz.func53 ?_
   refine zab ?_
   refine zae ?_
   refine zaf rfl ?_
   refine zad (zba (zae ?_))
   refine tx ?_
   refine zac (za1 (by first | exact IntWalk.i64_in _ (by omega) | rfl)) rfl rfl ?_
   refine yM ?_
   refine zab ?_
   refine zae ?_
   refine ⟨m - 1, by omega, _, zaF id _ _ ?_ ?_ rfl, i + 1, by omega, hno hc, rfl⟩
   ·(repeat (first | exact trivial | (refine ⟨⟨(by first | rfl | (simp; done) | (simp; omega)), rfl⟩, ?_⟩)))
   ·exact trivial
  ·rw [hyes hc]
   rw [hc] at hC
   refine zaa ?_
   refine tx ?_
   refine yP (zal (r := .fn _ _)) ?_
   refine yM ?_
   refine yM ?_
   refine zac (zax Tryz.underlying22 sz60 (by omega) (by omega) rfl) rfl rfl ?_
   refine zac (zaN Tryz.underlying60 rfl sz60 (by first | omega | (simp; done) | (simp; omega)) (hch)) rfl rfl ?_
   refine cS (fun n => 16 + 1000 * n) (hC) Tryz.func53 ?_
   refine zab ?_
   refine zae ?_
   refine zat rfl ?_
   refine zaa ?_
   refine tx ?_
   refine yM ?_
   refine yA ?_
   refine zab ?_
   refine zah (zaR (zar (zar (zaR (zar ?_)))))
   refine yT ?_ ?_
   ·exact rfl
   ·exact trivial
 have hge : i = l.length := by simp at h; omega
 clear h
 have hI : fI q l = -1 := by unfold fI; rw [if_neg (by omega)]
 rw [hI]
 refine zaE (zaa ?_)
 refine tx ?_
 refine yA ?_
 refine zab ?_
 refine zah ?_
 refine yT ?_ ?_
 ·exact rfl
 ·exact trivial
set_option maxHeartbeats 4000000 in
theorem delP_s (l : List PK) (k : ByteArray) (hn : l.length ≤ 1048576) : FnR Tryz.prog 52 [.row 0, .fn 53 [.ptr ([PV.v (.string k)] : List PV)]] [(0, .row 60 5 l.length (l.flatMap pkC))] (.row 1) [(1, .row 60 5 (l.filter (fun x => !(fun p => decide (p.1 = k)) x)).length ((l.filter (fun x => !(fun p => decide (p.1 = k)) x)).flatMap pkC))] := by
 have hI := ixP_s l k hn
 have hq := fun x => clP_s x k
 generalize ([PV.v (.string k)] : List PV) = K at *
 obtain ⟨q, hqd⟩ : ∃ q : PK → Bool, q = fun p => decide (p.1 = k) := ⟨_, rfl⟩
 rw [← hqd] at hI ⊢
 replace hq : ∀ x, Fn Tryz.prog 53 [.agg ((pkC x).map AV.p), .ptr K] (.p (.v (.bool (q x)))) [] := fun x => by rw [hqd]; exact hq x
 clear hqd
 unfold fI at hI
 have hL0 : (l.flatMap pkC).length = l.length * 5 := zaP (f := pkC) (k := 5) (fun _ => rfl) l
 by_cases h0 : l.findIdx q < l.length
 ·rw [if_pos h0] at hI
  have hF0 := zfG h0
  generalize hi0 : l.findIdx q = i0 at *
  refine zdb Tryz.func52 rfl (Nat.le_of_ble_eq_true rfl) fun w0 A => ?_
  refine zaa ?_
  refine tx ?_
  refine yA ?_
  refine zab ?_
  refine zaa ?_
  refine tx ?_
  refine yP (zal (r := .row _)) ?_
  refine yP (zal (r := .fn _ _)) ?_
  refine yV (fun n => 10 + 1000 * n) (hI) Tryz.func84 ?_
  refine yA ?_
  refine zab ?_
  refine zaa (zaa ?_)
  refine tx ?_
  refine yM ?_
  refine zac (zbs (c := false) (by first | (simp; done) | (simp; omega))) rfl rfl ?_
  refine zab ?_
  refine zae ?_
  refine zaf rfl ?_
  refine zad (zaa (zaa ?_))
  refine tx ?_
  refine yM ?_
  refine zac (za1 (by first | exact IntWalk.i64_in _ (by omega) | rfl)) rfl rfl ?_
  refine yA ?_
  refine zab ?_
  refine zaj ?_
  refine zaK (fun m st => ∃ j i : Nat, ∃ F : List PK, m + j = l.length ∧ F = (l.take j).filter (fun x => !q x) ∧ F.length = i ∧ i < j ∧ st = St.of [(0, .row 0), (1, .fn 53 [.ptr K]), (5, .p (.v (.int .i64 i))), (6, .p (.v (.int .i64 j)))] [(0, .row 60 5 l.length ((F ++ l.drop i).flatMap pkC))]) (l.length - (i0 + 1)) ?_ ?_
  ·refine ⟨_, zaF id [(0, .row 0), (1, .fn 53 [.ptr K]), (5, .p (.v (.int .i64 i0))), (6, .p (.v (.int .i64 (i0 + 1 : Nat))))] [(0, .row 60 5 l.length (l.flatMap pkC))] ?_ ?_ rfl, i0 + 1, i0, l.take i0, by omega, hF0.symm, by rw [List.length_take]; omega, by omega, by rw [List.take_append_drop]⟩
   ·(repeat (first | exact trivial | (refine ⟨⟨(by first | rfl | (simp; done) | (simp; omega)), rfl⟩, ?_⟩)))
   ·exact ⟨⟨rfl, rfl⟩, trivial⟩
  rintro m st ⟨j, i, F, hm, hF, hFl, hij, rfl⟩
  refine zaa (zaa ?_)
  refine tx ?_
  refine yM ?_
  refine yP (zal (r := .row _)) ?_
  refine zag (za8 Tryz.underlying22) rfl rfl ⟨rfl, trivial⟩ ?_
  refine yP za4 ?_
  refine zab ?_
  refine zae ?_
  refine zan _ rfl (fun h => ?_) (fun h => ?_)
  ·have hlt : j < l.length := by simp at h; omega
   clear h
   have hRl : (F ++ l.drop i).length = l.length := by rw [List.length_append, List.length_drop]; omega
   have hx : (F ++ l.drop i)[j]? = some l[j] := by
    rw [List.getElem?_append_right (by omega), List.getElem?_drop]
    rw [show i + (j - F.length) = j by omega]
    exact List.getElem?_eq_getElem hlt
   have hch := zaV (f := pkC) (k := 5) (fun _ => rfl) hx
   have hle := zaS (f := pkC) (k := 5) (fun _ => rfl) (l := F ++ l.drop i) (i := j) (by omega)
   have hle2 := zaS (f := pkC) (k := 5) (fun _ => rfl) (l := F ++ l.drop i) (i := i) (by omega)
   have hset := fm_set (f := pkC) (k := 5) (fun _ => rfl) F (l[i]'(by omega)) l[j] (l.drop (i + 1))
   rw [← drop_at (by omega), hFl] at hset
   have hC := hq l[j]
   have hFj := zeu (fun x => !q x) hlt
   rw [← hF] at hFj
   generalize hxx : (l[j]'(by omega)) = x at *
   generalize hR : (F ++ l.drop i).flatMap pkC = R at *
   refine zad (zaa (zaj (zaa ?_)))
   refine tx ?_
   refine yP (zal (r := .row _)) ?_
   refine yM ?_
   refine zag (zaB Tryz.underlying22 sz60 (by omega) (by omega) (by first | (simp only [Int.toNat_natCast, Nat.mul_one, Nat.zero_add]; rfl) | rfl)) rfl rfl ⟨rfl, trivial⟩ ?_
   refine zag (zfg Tryz.underlying60 rfl sz60 (by omega) (hch)) rfl rfl ⟨rfl, trivial⟩ ?_
   refine zag (zaA 7 zr60 rfl) rfl rfl ⟨rfl, trivial⟩ ?_
   refine zag (zas (Y := .agg ((pkC x).map AV.p)) sz60 rfl rfl (Nat.eq_of_beq_eq_true rfl)) rfl rfl ⟨rfl, trivial⟩ ?_
   refine zab ?_
   rcases hc : q x with _ | _
   ·rw [hc] at hC
    simp only [hc, Bool.not_false, if_true] at hFj
    refine zaa ?_
    refine tx ?_
    refine yP (zal (r := .fn _ _)) ?_
    refine lN Tryz.underlying60 rfl sz60 rfl rfl ⟨rfl, trivial⟩ ?_
    refine cS (fun n => 28 + 1000 * n) (hC) Tryz.func53 ?_
    refine yP za5 ?_
    refine zab ?_
    refine zae ?_
    refine zat rfl ?_
    refine zaa ?_
    refine tx ?_
    refine yP (zal (r := .row _)) ?_
    refine yM ?_
    refine lN Tryz.underlying60 rfl sz60 rfl rfl ⟨rfl, trivial⟩ ?_
    refine zag (zaB Tryz.underlying22 sz60 (by omega) (by omega) (by first | (simp only [Int.toNat_natCast, Nat.mul_one, Nat.zero_add]; rfl) | rfl)) rfl rfl ⟨rfl, trivial⟩ ?_
    refine zag (zb0 (Y := .agg ((pkC x).map AV.p)) (ys := pkC x) sz60 rfl rfl rfl (by omega) hset) rfl rfl ⟨rfl, trivial⟩ ?_
    refine zab ?_
    refine zae ?_
    refine tx ?_
    refine yM ?_
    refine zac (za1 (by first | exact IntWalk.i64_in _ (by omega) | rfl)) rfl rfl ?_
    refine yA ?_
    refine zab ?_
    refine zba (zae ?_)
    refine tx ?_
    refine yM ?_
    refine zac (za1 (by first | exact IntWalk.i64_in _ (by omega) | rfl)) rfl rfl ?_
    refine yA ?_
    refine zab ?_
    refine zae ?_
    refine ⟨m - 1, by omega, _, zaF id [(0, .row 0), (1, .fn 53 [.ptr K]), (5, .p (.v (.int .i64 (i + 1 : Nat)))), (6, .p (.v (.int .i64 (j + 1 : Nat))))] [(0, .row 60 5 l.length (((F ++ [x]) ++ l.drop (i + 1)).flatMap pkC))] ?_ ?_ rfl, j + 1, i + 1, F ++ [x], by omega, hFj.symm, by rw [List.length_append]; simp; omega, by omega, rfl⟩
    ·(repeat (first | exact trivial | (refine ⟨⟨(by first | rfl | (simp; done) | (simp; omega)), rfl⟩, ?_⟩)))
    ·exact ⟨⟨rfl, rfl⟩, trivial⟩
   ·rw [hc] at hC
    simp only [hc, Bool.not_true, Bool.false_eq_true, if_false, List.append_nil] at hFj
    refine zaa ?_
    refine tx ?_
    refine yP (zal (r := .fn _ _)) ?_
    refine lN Tryz.underlying60 rfl sz60 rfl rfl ⟨rfl, trivial⟩ ?_
    refine cS (fun n => 28 + 1000 * n) (hC) Tryz.func53 ?_
    refine yP za5 ?_
    refine zab ?_
    refine zae ?_
    refine zaf rfl ?_
    refine zad (zba (zae ?_))
    refine tx ?_
    refine yM ?_
    refine zac (za1 (by first | exact IntWalk.i64_in _ (by omega) | rfl)) rfl rfl ?_
    refine yA ?_
    refine zab ?_
    refine zae ?_
    refine ⟨m - 1, by omega, _, zaF id [(0, .row 0), (1, .fn 53 [.ptr K]), (5, .p (.v (.int .i64 i))), (6, .p (.v (.int .i64 (j + 1 : Nat))))] [(0, .row 60 5 l.length R)] ?_ ?_ rfl, j + 1, i, F, by omega, hFj.symm, hFl, by omega, by rw [hR]⟩
    ·(repeat (first | exact trivial | (refine ⟨⟨(by first | rfl | (simp; done) | (simp; omega)), rfl⟩, ?_⟩)))
    ·exact ⟨⟨rfl, rfl⟩, trivial⟩
  have hge : j = l.length := by simp at h; omega
  clear h
  have hF' : F = l.filter (fun x => !q x) := by rw [hF, hge, List.take_length]
  have hRl : ((F ++ l.drop i).flatMap pkC).length = l.length * 5 := by rw [zaP (f := pkC) (k := 5) (fun _ => rfl), List.length_append, List.length_drop]; congr 1; omega
  have hFc : (F.flatMap pkC).length = i * 5 := by rw [zaP (f := pkC) (k := 5) (fun _ => rfl), hFl]
  rw [← hF', hFl]
  obtain ⟨R, hR⟩ : ∃ R, (F ++ l.drop i).flatMap pkC = R := ⟨_, rfl⟩
  have hhead : R.take (i * 5) = F.flatMap pkC := by
   rw [← hR, List.flatMap_append, ← hFc, List.take_left]
  rw [hR] at hRl ⊢
  refine zaE (zaa ?_)
  refine zbM (zdt 0 rfl) ?_
  skip
  refine tx ?_
  refine yP (zal (r := .row _)) ?_
  refine yM ?_
  refine zag (zbp (L := (some (_, _))) (H := none) Tryz.underlying22 sz60 ⟨by omega, rfl⟩ rfl (by omega) (by omega) rfl rfl) rfl rfl ⟨rfl, trivial⟩ ?_
  refine zag (a_clearRA (m := l.length - i) (size := 5) Tryz.underlying22 zc60 rfl rfl (by omega) (by rw [List.length_map]; omega) rfl) rfl rfl ⟨rfl, trivial⟩ ?_
  refine zab ?_
  refine zaa ?_
  refine tx ?_
  refine yP (zal (r := .row _)) ?_
  refine yM ?_
  refine zag (ze7 (o' := 41) (h := i) (H := some (.i64, (i : Int))) Tryz.underlying22 sz60 ⟨by omega, by simp⟩ (by omega) (zs := (F.flatMap pkC).map AV.p) (by rw [Int.toNat_natCast, setR_head (by rw [List.length_map]; omega), ← List.map_take, hhead])) rfl rfl ⟨rfl, rfl, trivial⟩ ?_
  refine yP (zao (r := .row _)) ?_
  refine zab ?_
  refine zbF (zcA 41 (cs := F.flatMap pkC) rfl) ?_
  refine zah ?_
  refine fT (fun _ => 41) (.tmp _ _ _ _ rfl .nil) ?_ ?_
  ·exact rfl
  ·exact ⟨⟨rfl, rfl⟩, trivial⟩
 ·rw [if_neg h0] at hI
  have hall := idx_not h0
  rw [zeP hall]
  clear hq hall
  refine zdb Tryz.func52 rfl (Nat.le_of_ble_eq_true rfl) fun w0 A => ?_
  refine zaa ?_
  refine tx ?_
  refine yA ?_
  refine zab ?_
  refine zaa ?_
  refine tx ?_
  refine yP (zal (r := .row _)) ?_
  refine yP (zal (r := .fn _ _)) ?_
  refine yV (fun n => 10 + 1000 * n) (hI) Tryz.func84 ?_
  refine yA ?_
  refine zab ?_
  refine zaa (zaa ?_)
  refine tx ?_
  refine yM ?_
  refine zac (zbs (c := true) (by simp)) rfl rfl ?_
  refine zab ?_
  refine zae ?_
  refine zat rfl ?_
  refine zaa ?_
  refine tx ?_
  refine yP (zal (r := .row _)) ?_
  refine yP (zao (r := .row _)) ?_
  refine zab ?_
  refine zah (zar ?_)
  refine fT (fun _ => 0) (.tmp _ _ _ _ rfl .nil) ?_ ?_
  ·exact rfl
  ·exact ⟨⟨rfl, rfl⟩, trivial⟩
end Go.Proofs.YtkdfdcodkeclmaaGreatDoor
