/- slices.IndexFunc and slices.DeleteFunc, over data. -/
import Derived.Test.YtlfjpippeeikdaaGreatDoorSMo4
set_option linter.all false
namespace Go.Proofs.YtlfjpippeeikdaaGreatDoor
open Tryz
open Go.RowKit Go.Sort
set_option maxHeartbeats 16000000
set_option maxRecDepth 100000
theorem fm_push {α β : Type} (f : α → List β) (F : List α) (x : α) (L : List α) : (F ++ x :: L).flatMap f = F.flatMap f ++ (f x ++ L.flatMap f) := by
 simp [qaX]
theorem fm_set {α β : Type} {f : α → List β} {k : Nat} (hf : ∀ x, (f x).length = k) (F : List α) (y x : α) (L : List α) : setR ((F ++ y :: L).flatMap f) (F.length * k) (f x) = ((F ++ [x]) ++ L).flatMap f := by
 have h1 : (F.flatMap f).length = F.length * k := zas hf F
 rw [fm_push]
 unfold setR
 rw [← h1, qbL, hf, ← hf y, qaY]
 rw [show F.flatMap f ++ (f y ++ L.flatMap f) = (F.flatMap f ++ f y) ++ L.flatMap f by rw [qaY]]
 rw [show (F.flatMap f).length + (f y).length = (F.flatMap f ++ f y).length by rw [qaC]]
 rw [qca]
 simp [qaX]
theorem setR_head {α : Type} {l vs : List α} {d : Nat} (h : d ≤ l.length) : (setR l d vs).take d = l.take d := by
 unfold setR
 rw [qaY, qa3 (by rw [List.length_take]; omega), qbT, Nat.min_self]
theorem drop_at {α : Type} {l : List α} {i : Nat} (h : i < l.length) : l.drop i = l[i] :: l.drop (i + 1) := (qbh h)
theorem zfy {α : Type} (q : α → Bool) {l : List α} {j : Nat} (h : j < l.length) : (l.take (j + 1)).filter q = (l.take j).filter q ++ (if q l[j] then [l[j]] else []) := by
 rw [qaM h, qbX]
 congr 1
 cases hq : q l[j] <;> simp [List.filter, hq]
theorem idx_not {α : Type} {q : α → Bool} {l : List α} (h : ¬ l.findIdx q < l.length) : ∀ x ∈ l, q x = false := fun x hx => by
 rcases hq : q x with _ | _
 ·rfl
 ·exact absurd (List.findIdx_lt_length_of_exists ⟨x, hx, hq⟩) h
theorem zf8 {α : Type} {q : α → Bool} {l : List α} (h : ∀ x ∈ l, q x = false) : l.filter (fun x => !q x) = l := qbE.2 fun x hx => by simp [h x hx]
theorem zho {α : Type} {q : α → Bool} {l : List α} (h : l.findIdx q < l.length) : (l.take (l.findIdx q + 1)).filter (fun x => !q x) = l.take (l.findIdx q) := by
 rw [zfy _ h]
 have h1 : q l[l.findIdx q] = true := List.findIdx_getElem
 rw [zf8]
 ·simp [h1]
 ·intro x hx
  obtain ⟨i, hi, rfl⟩ := qbs.1 hx
  rw [List.length_take] at hi
  rw [qb4]
  have := List.not_of_lt_findIdx (p := q) (xs := l) (i := i) qk
  simpa using this
def fI {α : Type} (q : α → Bool) (l : List α) : Int := if l.findIdx q < l.length then l.findIdx q else -1
abbrev PK := ByteArray × Value × Value × Value × Value
def pkC (p : PK) : List PV := [qg p.1, .v p.2.1, .v p.2.2.1, .v p.2.2.2.1, .v p.2.2.2.2]
theorem clN_s (m n : NtP) : Fn prog 170 [.agg ((ntC m).map AV.p), .ptr (ntC n)] (qf (decide (m = n))) [] := by
 show Fn prog _ [.agg [qe m.1, qd m.2], .ptr [qi n.1, qh n.2]] _ _
 refine fnI fun w0 A => ?_
 refine G [8] ?_
 refine zaa (zam U82 rfl sz82 qB (rfl)) rfl rfl ?_
 refine zaa (zb3 U82 rfl rfl qm qm qm (c := decide (m = n)) (zdc ..)) rfl rfl ?_
 refine jdc ?_
 exact yE
theorem clP_s (p : PK) (k : ByteArray) : Fn prog 132 [.agg ((pkC p).map AV.p), .ptr [qg k]] (qf (decide (p.1 = k))) [] := by
 show Fn prog _ [.agg [qc p.1, .p (.v p.2.1), .p (.v p.2.2.1), .p (.v p.2.2.2.1), .p (.v p.2.2.2.2)], .ptr [qg k]] _ _
 exact jbo
theorem ixN_s (l : List NtP) (n : NtP) (hn : l.length ≤ 1048576) : Fn prog 193 [.p (.sl l.length 2 (l.flatMap ntC)), .fn 170 [.ptr (ntC n)]] (qd (fI (fun m => decide (m = n)) l)) [] := by
 have hq := fun x => clN_s x n
 generalize (ntC n) = K at *
 obtain ⟨q, hqd⟩ : ∃ q : NtP → Bool, q = fun m => decide (m = n) := ⟨_, rfl⟩
 rw [← hqd]
 replace hq : ∀ x, Fn prog 170 [.agg ((ntC x).map AV.p), .ptr K] (qf (q x)) [] := fun x => by rw [hqd]; exact hq x
 clear hqd
 refine fnI fun w0 A => ?_
 refine G [12] ?_
 refine zae (fun m st => ∃ i : Nat, m + i = l.length ∧ i ≤ l.findIdx q ∧ st = St.of [(0, .p (.sl l.length 2 (l.flatMap ntC))), (1, .fn 170 [.ptr K]), (7, qd l.length), (8, qd i)] []) l.length ?_ ?_
 ·exact jav
 rintro m st ⟨i, hi, hb, rfl⟩
 refine G [5] ?_
 refine cX ?_ ?_ <;> intro h
 ·have hlt : i < l.length := by simp at h; omega
  clear h
  have hx : l[i]? = some (l[i]'qk) := List.getElem?_eq_getElem qk
  have hch := zaj (f := ntC) (k := 2) (fun _ => rfl) hx
  have hle := zak (f := ntC) (k := 2) (fun _ => rfl) hlt
  have hC := hq (l[i]'qk)
  have hyes : q (l[i]'qk) = true → fI q l = i := fun h => by
   exact jbu
  have hno : q (l[i]'qk) = false → i + 1 ≤ l.findIdx q := fun h => by
   exact jbH
  generalize hxx : (l[i]'qk) = x at *
  generalize l.flatMap ntC = L at *
  exact jaT
 exact jb7
theorem delN_s (l : List NtP) (n : NtP) (hn : l.length ≤ 1048576) : FnR prog 169 [.row 0, .fn 170 [.ptr (ntC n)]] [(0, .row 82 2 l.length (l.flatMap ntC))] (.row 1) [(1, .row 82 2 (l.filter (fun x => !(fun m => decide (m = n)) x)).length ((l.filter (fun x => !(fun m => decide (m = n)) x)).flatMap ntC))] := by
 have hI := ixN_s l n hn
 have hq := fun x => clN_s x n
 generalize (ntC n) = K at *
 obtain ⟨q, hqd⟩ : ∃ q : NtP → Bool, q = fun m => decide (m = n) := ⟨_, rfl⟩
 rw [← hqd] at hI ⊢
 replace hq : ∀ x, Fn prog 170 [.agg ((ntC x).map AV.p), .ptr K] (qf (q x)) [] := fun x => by rw [hqd]; exact hq x
 clear hqd
 unfold fI at hI
 have hL0 : (l.flatMap ntC).length = l.length * 2 := zas (f := ntC) (k := 2) (fun _ => rfl) l
 by_cases h0 : l.findIdx q < l.length
 ·rw [if_pos h0] at hI
  have hF0 := zho h0
  generalize hi0 : l.findIdx q = i0 at *
  refine zdG func169 rfl (qaA rfl) fun w0 A => ?_
  refine G [8] ?_
  refine cV hI ?_
  refine G [6, 3, 11] ?_
  refine zae (fun m st => ∃ j i : Nat, ∃ F : List NtP, m + j = l.length ∧ F = (l.take j).filter (fun x => !q x) ∧ F.length = i ∧ i < j ∧ st = St.of [(0, .row 0), (1, .fn 170 [.ptr K]), (5, qd i), (6, qd j)] [(0, .row 82 2 l.length ((F ++ l.drop i).flatMap ntC))]) (l.length - (i0 + 1)) ?_ ?_
  ·refine ⟨_, zad id [(0, .row 0), (1, .fn 170 [.ptr K]), (5, qd i0), (6, qd (i0 + 1 : Nat))] [(0, .row 82 2 l.length (l.flatMap ntC))] ?_ ?_ rfl, i0 + 1, i0, l.take i0, qk, hF0.symm, by rw [List.length_take]; omega, qk, by rw [qa1]⟩
   ·exact ja5
   ·exact ⟨⟨rfl, rfl⟩, trivial⟩
  rintro m st ⟨j, i, F, hm, hF, hFl, hij, rfl⟩
  refine jdh ?_
  refine cX ?_ ?_ <;> intro h
  ·have hlt : j < l.length := by simp at h; omega
   clear h
   have hRl : (F ++ l.drop i).length = l.length := by rw [qaC, qaP]; omega
   have hx : (F ++ l.drop i)[j]? = some l[j] := by
    exact jcd
   have hch := zaj (f := ntC) (k := 2) (fun _ => rfl) hx
   have hle := zak (f := ntC) (k := 2) (fun _ => rfl) (l := F ++ l.drop i) (i := j) qk
   have hle2 := zak (f := ntC) (k := 2) (fun _ => rfl) (l := F ++ l.drop i) (i := i) qk
   have hset := fm_set (f := ntC) (k := 2) (fun _ => rfl) F (l[i]'qk) l[j] (l.drop (i + 1))
   rw [← drop_at (by omega), hFl] at hset
   have hC := hq l[j]
   have hFj := zfy (fun x => !q x) hlt
   rw [← hF] at hFj
   generalize hxx : (l[j]'qk) = x at *
   generalize hR : (F ++ l.drop i).flatMap ntC = R at *
   refine G [8] ?_
   refine zab (zd2 U82 rfl sz82 qk (hch)) rfl rfl ⟨rfl, trivial⟩ ?_
   refine jdZ (zaJ 7 zr82 rfl) ?_
   refine jdZ (zac (Y := .agg ((ntC x).map AV.p)) sz82 rfl rfl (qaB rfl)) ?_
   refine zag ?_
   rcases hc : q x with _ | _
   ·rw [hc] at hC
    simp only [hc, Bool.not_false, if_true] at hFj
    refine G [4] ?_
    refine cK hC ?_
    refine G [9] ?_
    refine zab (zbX (Y := .agg ((ntC x).map AV.p)) (ys := ntC x) sz82 rfl rfl rfl qk hset) rfl rfl ⟨rfl, trivial⟩ ?_
    refine G [11, 9, 0] ?_
    refine ⟨m - 1, qk, _, zad id [(0, .row 0), (1, .fn 170 [.ptr K]), (5, qd (i + 1 : Nat)), (6, qd (j + 1 : Nat))] [(0, .row 82 2 l.length (((F ++ [x]) ++ l.drop (i + 1)).flatMap ntC))] ?_ ?_ rfl, j + 1, i + 1, F ++ [x], qk, hFj.symm, by rw [qaC]; simp; omega, qk, rfl⟩
    ·exact ja5
    ·exact ⟨⟨rfl, rfl⟩, trivial⟩
   ·rw [hc] at hC
    simp only [hc, Bool.not_true, qa0, if_false, qaV] at hFj
    refine G [4] ?_
    refine cK hC ?_
    refine G [9, 9, 0] ?_
    refine ⟨m - 1, qk, _, zad id [(0, .row 0), (1, .fn 170 [.ptr K]), (5, qd i), (6, qd (j + 1 : Nat))] [(0, .row 82 2 l.length R)] ?_ ?_ rfl, j + 1, i, F, qk, hFj.symm, hFl, qk, by rw [hR]⟩
    ·exact ja5
    ·exact ⟨⟨rfl, rfl⟩, trivial⟩
  have hge : j = l.length := by simp at h; omega
  clear h
  have hF' : F = l.filter (fun x => !q x) := by rw [hF, hge, qa5]
  have hRl : ((F ++ l.drop i).flatMap ntC).length = l.length * 2 := by rw [zas (f := ntC) (k := 2) (fun _ => rfl), qaC, qaP]; congr 1; omega
  have hFc : (F.flatMap ntC).length = i * 2 := by rw [zas (f := ntC) (k := 2) (fun _ => rfl), hFl]
  rw [← hF', hFl]
  obtain ⟨R, hR⟩ : ∃ R, (F ++ l.drop i).flatMap ntC = R := ⟨_, rfl⟩
  have hhead : R.take (i * 2) = F.flatMap ntC := by
   rw [← hR, qaX, ← hFc, qbL]
  rw [hR] at hRl ⊢
  refine G [2] ?_
  refine zaZ (zef 0 rfl) ?_
  skip
  refine G [3] ?_
  refine zab (zbg (L := (some (_, _))) (H := none) U46 sz82 ⟨qk, rfl⟩ rfl qk qk rfl rfl) rfl rfl ⟨rfl, trivial⟩ ?_
  refine zab (a_clearRA (m := l.length - i) (size := 2) U46 zc82 rfl rfl qk qag rfl) rfl rfl ⟨rfl, trivial⟩ ?_
  refine G [5] ?_
  refine zab (zgt (o' := 41) (h := i) (H := some (.i64, (i : Int))) U46 sz82 ⟨qk, qz⟩ qk (zs := (F.flatMap ntC).map AV.p) qV) rfl rfl ⟨rfl, rfl, trivial⟩ ?_
  refine G [2] ?_
  refine zbd (zcU 41 (cs := F.flatMap ntC) rfl) ?_
  refine zaB (yT (fun _ => 41) ?_ ?_)
  ·exact rfl
  ·exact ⟨⟨rfl, rfl⟩, trivial⟩
 ·rw [if_neg h0] at hI
  have hall := idx_not h0
  rw [zf8 hall]
  clear hq hall
  refine zdG func169 rfl (qaA rfl) fun w0 A => ?_
  exact jcg
theorem ixP_s (l : List PK) (k : ByteArray) (hn : l.length ≤ 1048576) : Fn prog 79 [.p (.sl l.length 5 (l.flatMap pkC)), .fn 132 [.ptr ([PV.v (.string k)] : List PV)]] (qd (fI (fun p => decide (p.1 = k)) l)) [] := by
 have hq := fun x => clP_s x k
 generalize ([PV.v (.string k)] : List PV) = K at *
 obtain ⟨q, hqd⟩ : ∃ q : PK → Bool, q = fun p => decide (p.1 = k) := ⟨_, rfl⟩
 rw [← hqd]
 replace hq : ∀ x, Fn prog 132 [.agg ((pkC x).map AV.p), .ptr K] (qf (q x)) [] := fun x => by rw [hqd]; exact hq x
 clear hqd
 refine fnI fun w0 A => ?_
 refine G [12] ?_
 refine zae (fun m st => ∃ i : Nat, m + i = l.length ∧ i ≤ l.findIdx q ∧ st = St.of [(0, .p (.sl l.length 5 (l.flatMap pkC))), (1, .fn 132 [.ptr K]), (7, qd l.length), (8, qd i)] []) l.length ?_ ?_
 ·exact jav
 rintro m st ⟨i, hi, hb, rfl⟩
 refine G [5] ?_
 refine cX ?_ ?_ <;> intro h
 ·have hlt : i < l.length := by simp at h; omega
  clear h
  have hx : l[i]? = some (l[i]'qk) := List.getElem?_eq_getElem qk
  have hch := zaj (f := pkC) (k := 5) (fun _ => rfl) hx
  have hle := zak (f := pkC) (k := 5) (fun _ => rfl) hlt
  have hC := hq (l[i]'qk)
  have hyes : q (l[i]'qk) = true → fI q l = i := fun h => by
   exact jbu
  have hno : q (l[i]'qk) = false → i + 1 ≤ l.findIdx q := fun h => by
   exact jbH
  generalize hxx : (l[i]'qk) = x at *
  generalize l.flatMap pkC = L at *
  exact jaT
 exact jb7
theorem delP_s (l : List PK) (k : ByteArray) (hn : l.length ≤ 1048576) : FnR prog 131 [.row 0, .fn 132 [.ptr ([PV.v (.string k)] : List PV)]] [(0, .row 48 5 l.length (l.flatMap pkC))] (.row 1) [(1, .row 48 5 (l.filter (fun x => !(fun p => decide (p.1 = k)) x)).length ((l.filter (fun x => !(fun p => decide (p.1 = k)) x)).flatMap pkC))] := by
 have hI := ixP_s l k hn
 have hq := fun x => clP_s x k
 generalize ([PV.v (.string k)] : List PV) = K at *
 obtain ⟨q, hqd⟩ : ∃ q : PK → Bool, q = fun p => decide (p.1 = k) := ⟨_, rfl⟩
 rw [← hqd] at hI ⊢
 replace hq : ∀ x, Fn prog 132 [.agg ((pkC x).map AV.p), .ptr K] (qf (q x)) [] := fun x => by rw [hqd]; exact hq x
 clear hqd
 unfold fI at hI
 have hL0 : (l.flatMap pkC).length = l.length * 5 := zas (f := pkC) (k := 5) (fun _ => rfl) l
 by_cases h0 : l.findIdx q < l.length
 ·rw [if_pos h0] at hI
  have hF0 := zho h0
  generalize hi0 : l.findIdx q = i0 at *
  refine zdG func131 rfl (qaA rfl) fun w0 A => ?_
  refine G [8] ?_
  refine cV hI ?_
  refine G [6, 3, 11] ?_
  refine zae (fun m st => ∃ j i : Nat, ∃ F : List PK, m + j = l.length ∧ F = (l.take j).filter (fun x => !q x) ∧ F.length = i ∧ i < j ∧ st = St.of [(0, .row 0), (1, .fn 132 [.ptr K]), (5, qd i), (6, qd j)] [(0, .row 48 5 l.length ((F ++ l.drop i).flatMap pkC))]) (l.length - (i0 + 1)) ?_ ?_
  ·refine ⟨_, zad id [(0, .row 0), (1, .fn 132 [.ptr K]), (5, qd i0), (6, qd (i0 + 1 : Nat))] [(0, .row 48 5 l.length (l.flatMap pkC))] ?_ ?_ rfl, i0 + 1, i0, l.take i0, qk, hF0.symm, by rw [List.length_take]; omega, qk, by rw [qa1]⟩
   ·exact ja5
   ·exact ⟨⟨rfl, rfl⟩, trivial⟩
  rintro m st ⟨j, i, F, hm, hF, hFl, hij, rfl⟩
  refine jdh ?_
  refine cX ?_ ?_ <;> intro h
  ·have hlt : j < l.length := by simp at h; omega
   clear h
   have hRl : (F ++ l.drop i).length = l.length := by rw [qaC, qaP]; omega
   have hx : (F ++ l.drop i)[j]? = some l[j] := by
    exact jcd
   have hch := zaj (f := pkC) (k := 5) (fun _ => rfl) hx
   have hle := zak (f := pkC) (k := 5) (fun _ => rfl) (l := F ++ l.drop i) (i := j) qk
   have hle2 := zak (f := pkC) (k := 5) (fun _ => rfl) (l := F ++ l.drop i) (i := i) qk
   have hset := fm_set (f := pkC) (k := 5) (fun _ => rfl) F (l[i]'qk) l[j] (l.drop (i + 1))
   rw [← drop_at (by omega), hFl] at hset
   have hC := hq l[j]
   have hFj := zfy (fun x => !q x) hlt
   rw [← hF] at hFj
   generalize hxx : (l[j]'qk) = x at *
   generalize hR : (F ++ l.drop i).flatMap pkC = R at *
   refine G [8] ?_
   refine zab (zd2 U48 rfl sz48 qk (hch)) rfl rfl ⟨rfl, trivial⟩ ?_
   refine jdZ (zaJ 7 zr48 rfl) ?_
   refine jdZ (zac (Y := .agg ((pkC x).map AV.p)) sz48 rfl rfl (qaB rfl)) ?_
   refine zag ?_
   rcases hc : q x with _ | _
   ·rw [hc] at hC
    simp only [hc, Bool.not_false, if_true] at hFj
    refine G [4] ?_
    refine cK hC ?_
    refine G [9] ?_
    refine zab (zbX (Y := .agg ((pkC x).map AV.p)) (ys := pkC x) sz48 rfl rfl rfl qk hset) rfl rfl ⟨rfl, trivial⟩ ?_
    refine G [11, 9, 0] ?_
    refine ⟨m - 1, qk, _, zad id [(0, .row 0), (1, .fn 132 [.ptr K]), (5, qd (i + 1 : Nat)), (6, qd (j + 1 : Nat))] [(0, .row 48 5 l.length (((F ++ [x]) ++ l.drop (i + 1)).flatMap pkC))] ?_ ?_ rfl, j + 1, i + 1, F ++ [x], qk, hFj.symm, by rw [qaC]; simp; omega, qk, rfl⟩
    ·exact ja5
    ·exact ⟨⟨rfl, rfl⟩, trivial⟩
   ·rw [hc] at hC
    simp only [hc, Bool.not_true, qa0, if_false, qaV] at hFj
    refine G [4] ?_
    refine cK hC ?_
    refine G [9, 9, 0] ?_
    refine ⟨m - 1, qk, _, zad id [(0, .row 0), (1, .fn 132 [.ptr K]), (5, qd i), (6, qd (j + 1 : Nat))] [(0, .row 48 5 l.length R)] ?_ ?_ rfl, j + 1, i, F, qk, hFj.symm, hFl, qk, by rw [hR]⟩
    ·exact ja5
    ·exact ⟨⟨rfl, rfl⟩, trivial⟩
  have hge : j = l.length := by simp at h; omega
  clear h
  have hF' : F = l.filter (fun x => !q x) := by rw [hF, hge, qa5]
  have hRl : ((F ++ l.drop i).flatMap pkC).length = l.length * 5 := by rw [zas (f := pkC) (k := 5) (fun _ => rfl), qaC, qaP]; congr 1; omega
  have hFc : (F.flatMap pkC).length = i * 5 := by rw [zas (f := pkC) (k := 5) (fun _ => rfl), hFl]
  rw [← hF', hFl]
  obtain ⟨R, hR⟩ : ∃ R, (F ++ l.drop i).flatMap pkC = R := ⟨_, rfl⟩
  have hhead : R.take (i * 5) = F.flatMap pkC := by
   rw [← hR, qaX, ← hFc, qbL]
  rw [hR] at hRl ⊢
  refine G [2] ?_
  refine zaZ (zef 0 rfl) ?_
  skip
  refine G [3] ?_
  refine zab (zbg (L := (some (_, _))) (H := none) U22 sz48 ⟨qk, rfl⟩ rfl qk qk rfl rfl) rfl rfl ⟨rfl, trivial⟩ ?_
  refine zab (a_clearRA (m := l.length - i) (size := 5) U22 zc48 rfl rfl qk qag rfl) rfl rfl ⟨rfl, trivial⟩ ?_
  refine G [5] ?_
  refine zab (zgt (o' := 41) (h := i) (H := some (.i64, (i : Int))) U22 sz48 ⟨qk, qz⟩ qk (zs := (F.flatMap pkC).map AV.p) qV) rfl rfl ⟨rfl, rfl, trivial⟩ ?_
  refine G [2] ?_
  refine zbd (zcU 41 (cs := F.flatMap pkC) rfl) ?_
  refine zaB (yT (fun _ => 41) ?_ ?_)
  ·exact rfl
  ·exact ⟨⟨rfl, rfl⟩, trivial⟩
 ·rw [if_neg h0] at hI
  have hall := idx_not h0
  rw [zf8 hall]
  clear hq hall
  refine zdG func131 rfl (qaA rfl) fun w0 A => ?_
  exact jcg
theorem setR2a {α : Type} {M X D : List α} {t : Nat} (h : M.length = t + X.length + D.length) : setR (setR M t X) (t + X.length) D = M.take t ++ X ++ D := by
 unfold setR
 have h1 : (M.take t).length = t := by rw [List.length_take]; omega
 have h2 : (M.take t ++ X).length = t + X.length := by rw [qaC, h1]
 rw [show (M.take t ++ X ++ M.drop (t + X.length)).take (t + X.length) = M.take t ++ X by rw [← h2, qbL]]
 rw [qbe (by rw [qaC, h2, qaP]; omega), qaV]
theorem setR2b {α : Type} {M X D : List α} {t : Nat} (h : M.length = t + X.length + D.length) : setR (setR M (t + X.length) D) t X = M.take t ++ X ++ D := by
 unfold setR
 have h1 : (M.take (t + X.length)).length = t + X.length := by rw [List.length_take]; omega
 rw [show M.drop (t + X.length + D.length) = [] from qbe (by omega), qaV]
 have h3 : (M.take (t + X.length) ++ D).drop (t + X.length) = D := by
  have := qca (l₁ := M.take (t + X.length)) (l₂ := D)
  rwa [h1] at this
 rw [h3]
 rw [qa3 (by rw [h1]; omega), qbT, Nat.min_eq_left (by omega)]
theorem fm_ins {α β : Type} {f : α → List β} {k : Nat} (hf : ∀ x, (f x).length = k) (l : List α) (i : Nat) (x : α) (hi : i ≤ l.length) : (l.take i ++ x :: l.drop i).flatMap f = (l.flatMap f).take (i * k) ++ f x ++ (l.flatMap f).drop (i * k) := by
 have h1 : ((l.take i).flatMap f).length = i * k := by rw [zas hf, List.length_take, Nat.min_eq_left hi]
 have h2 : l.flatMap f = (l.take i).flatMap f ++ (l.drop i).flatMap f := by rw [← qaX, qa1]
 exact jch
theorem insN_s (l : List NtP) (x : NtP) (i : Nat) (hi : i ≤ l.length) (hn : l.length ≤ 1048576) : FnR prog 172 [.row 0, qd i, .psl 1 0 1 2] [(0, .row 82 2 l.length (l.flatMap ntC)), (1, .box 82 ((ntC x).map AV.p))] (.row 2) [(2, .row 82 2 (l.length + 1) ((l.take i ++ x :: l.drop i).flatMap ntC))] := by
 have hL : (l.flatMap ntC).length = l.length * 2 := zas (f := ntC) (k := 2) (fun _ => rfl) l
 rw [fm_ins (f := ntC) (k := 2) (fun _ => rfl) l i x hi]
 generalize l.flatMap ntC = L at *
 generalize l.length = n at *
 refine zdG func172 rfl (qaA rfl) fun w0 A => ?_
 refine G [8] ?_
 refine zab (zdo (L := (some (_, _))) (H := none) U46 sz82 ⟨qk, rfl⟩ rfl qk qk rfl rfl) rfl rfl ⟨rfl, trivial⟩ ?_
 refine G [11, 3, 9] ?_
 by_cases hin : i = n
 ·subst hin
  refine G [5, 4, 2] ?_
  rw [qaN (by omega : L.length ≤ i * 2), qbe (by omega : L.length ≤ i * 2), qaV]
  refine G [4] ?_
  refine zab (zaq (cs := L) (ys := ntC x) 25 U46 eo82 (zfO (cs := (ntC x).map AV.p) rfl (qaA rfl) rfl) qy qk rfl rfl) rfl rfl ⟨rfl, rfl, rfl, trivial⟩ ?_
  exact jcG
 have hlt : i < n := qk
 refine G [5, 3, 2] ?_
 refine awp_openR 0 rfl fun c hc1 hc2 => ?_
 have hXl : ((ntC x).map AV.p).length = 2 := rfl
 have hDl : ((L.drop (i * 2)).map AV.p).length = (n - i) * 2 := by rw [qaR, qaP, hL, ← Nat.sub_mul]
 by_cases hcc : c < n + 1
 ·refine G [8] ?_
  refine jdZ (ziJ U46) ?_
  refine G [0, 4, 6] ?_
  refine zab (a_sliceC (h := i) (H := some (.i64, (i : Int))) U46 sz82 ⟨qk, qz⟩ qk) rfl rfl ⟨rfl, trivial⟩ ?_
  refine G [4] ?_
  refine zaa (zgf (c := ((n + 1 - i : Nat) : Int)) (by rw [qa6 _ (by omega)]; omega)) rfl rfl ?_
  refine zab (zgv (size := 2) (k := n + 1 - i) (q := n + 1) (zs := (L.take (i * 2)).map AV.p ++ List.replicate ((n + 1 - i) * 2) .any) 40 U46 U3 eo82 qk qk qk qk qy qk (by rw [List.map_take]) qk) rfl rfl ⟨rfl, rfl, trivial⟩ ?_
  refine G [2] ?_
  have hMl : ((L.take (i * 2)).map AV.p ++ List.replicate ((n + 1 - i) * 2) AV.any).length = i * 2 + ((ntC x).map AV.p).length + ((L.drop (i * 2)).map AV.p).length := by
   rw [hXl, hDl, qaC, qaR, List.length_take, List.length_replicate]
   omega
  have hset := setR2a hMl
  have hT0 : ((L.take (i * 2)).map AV.p ++ List.replicate ((n + 1 - i) * 2) AV.any).take (i * 2) = (L.take (i * 2)).map AV.p := by
   exact jb1
  rw [hT0, ← qa4, ← qa4] at hset
  generalize hM : (L.take (i * 2)).map AV.p ++ List.replicate ((n + 1 - i) * 2) AV.any = M at *
  refine G [4] ?_
  refine zab (zbg (L := (some (_, _))) (H := none) U46 sz82 ⟨qk, rfl⟩ rfl qk qk rfl rfl) rfl rfl ⟨rfl, trivial⟩ ?_
  refine jdY (zaI (r := .psl _ _ _ _)) ?_
  refine zab (zdp (q := 1) (size := 2) (ys := ntC x) U46 sz82 (srcQ (zfO (cs := (ntC x).map AV.p) rfl (qaA rfl) rfl)) qk qk qk rfl) rfl rfl ⟨rfl, rfl, trivial⟩ ?_
  refine G [7] ?_
  refine zab (zbg (L := (some (_, _))) (H := none) U46 sz82 ⟨qk, rfl⟩ rfl qk qk rfl rfl) rfl rfl ⟨rfl, trivial⟩ ?_
  refine G [2] ?_
  refine zab (zbg (L := (some (_, _))) (H := none) U46 sz82 ⟨qk, rfl⟩ rfl qk qk rfl rfl) rfl rfl ⟨rfl, trivial⟩ ?_
  refine zab (zdp (q := n - i) (size := 2) (ys := L.drop (i * 2)) U46 sz82 (zfe qk qag qU) qk qk (by rw [zbw (by rw [hXl]; omega)]; omega) (es := setR (setR M (i * 2) ((ntC x).map AV.p)) (i * 2 + ((ntC x).map AV.p).length) ((L.drop (i * 2)).map AV.p)) qam) rfl rfl ⟨rfl, rfl, trivial⟩ ?_
  refine G [6] ?_
  refine zbd (zcU 40 (cs := L.take (i * 2) ++ ntC x ++ L.drop (i * 2)) qav) ?_
  refine zaB (zbs (yT (fun _ => 40) ?_ ?_))
  ·exact rfl
  ·exact ⟨⟨rfl, rfl⟩, trivial⟩
 ·refine G [8] ?_
  refine jdZ (ziJ U46) ?_
  refine G [0, 3, 9] ?_
  refine zab (a_sliceUp (o' := 60) (h := n + 1) (H := some (.i64, ((n + 1 : Nat) : Int))) (zs := L.map AV.p ++ List.replicate (1 * 2) .any) U46 sz82 ⟨qk, qz⟩ qk qk (by rw [show n + 1 - n = 1 by omega])) rfl rfl ⟨rfl, rfl, trivial⟩ ?_
  refine G [2] ?_
  have hMl : (L.map AV.p ++ List.replicate (1 * 2) AV.any).length = i * 2 + ((ntC x).map AV.p).length + ((L.drop (i * 2)).map AV.p).length := by
   rw [hXl, hDl, qaC, qaR, List.length_replicate]
   omega
  have hset := setR2b hMl
  have hT0 : (L.map AV.p ++ List.replicate (1 * 2) AV.any).take (i * 2) = (L.take (i * 2)).map AV.p := by
   rw [qa3 (by rw [qaR]; omega), List.map_take]
  have hD0 : ((L.map AV.p ++ List.replicate (1 * 2) AV.any).drop (i * 2)).take ((n - i) * 2) = (L.drop (i * 2)).map AV.p := by
   exact jbJ
  rw [hT0, ← qa4, ← qa4] at hset
  generalize hM : L.map AV.p ++ List.replicate (1 * 2) AV.any = M at *
  refine G [8] ?_
  refine zab (zbg (L := (some (_, _))) (H := none) U46 sz82 ⟨qk, rfl⟩ rfl qk qk rfl rfl) rfl rfl ⟨rfl, trivial⟩ ?_
  refine zab (zh5 (tR := 4) (size := 2) func194 qm rfl rfl qm U46 sz82 rfl qk qk qk) rfl rfl ⟨rfl, rfl, trivial⟩ ?_
  refine G [9] ?_
  refine zab (zbg (L := (some (_, _))) (H := none) U46 sz82 ⟨qk, rfl⟩ rfl qk qk rfl rfl) rfl rfl ⟨rfl, trivial⟩ ?_
  refine G [2] ?_
  refine zab (zbg (L := (some (_, _))) (H := none) U46 sz82 ⟨qk, rfl⟩ rfl qk qk rfl rfl) rfl rfl ⟨rfl, trivial⟩ ?_
  refine zab (zdp (q := n - i) (size := 2) (ys := L.drop (i * 2)) U46 sz82 (zfe qk qk hD0) qk qk qk (es := setR M (i * 2 + ((ntC x).map AV.p).length) ((L.drop (i * 2)).map AV.p)) qam) rfl rfl ⟨rfl, rfl, trivial⟩ ?_
  refine G [5] ?_
  refine zab (zbg (L := (some (_, _))) (H := none) U46 sz82 ⟨qk, rfl⟩ rfl qk qk rfl rfl) rfl rfl ⟨rfl, trivial⟩ ?_
  refine jdY (zaI (r := .psl _ _ _ _)) ?_
  refine zab (zdp (q := 1) (size := 2) (ys := ntC x) U46 sz82 (srcQ (zfO (cs := (ntC x).map AV.p) rfl (qaA rfl) rfl)) qk qk (by rw [zbw (by rw [hDl]; omega)]; omega) rfl) rfl rfl ⟨rfl, rfl, trivial⟩ ?_
  refine G [6] ?_
  refine zbd (zcU 60 (cs := L.take (i * 2) ++ ntC x ++ L.drop (i * 2)) qav) ?_
  refine zaB (zbs (yT (fun _ => 60) ?_ ?_))
  ·exact rfl
  ·exact ⟨⟨rfl, rfl⟩, trivial⟩
theorem insP_s (l : List PK) (x : PK) (i : Nat) (hi : i ≤ l.length) (hn : l.length ≤ 1048576) : FnR prog 168 [.row 0, qd i, .psl 1 0 1 5] [(0, .row 48 5 l.length (l.flatMap pkC)), (1, .box 48 ((pkC x).map AV.p))] (.row 2) [(2, .row 48 5 (l.length + 1) ((l.take i ++ x :: l.drop i).flatMap pkC))] := by
 have hL : (l.flatMap pkC).length = l.length * 5 := zas (f := pkC) (k := 5) (fun _ => rfl) l
 rw [fm_ins (f := pkC) (k := 5) (fun _ => rfl) l i x hi]
 generalize l.flatMap pkC = L at *
 generalize l.length = n at *
 refine zdG func168 rfl (qaA rfl) fun w0 A => ?_
 refine G [8] ?_
 refine zab (zdo (L := (some (_, _))) (H := none) U22 sz48 ⟨qk, rfl⟩ rfl qk qk rfl rfl) rfl rfl ⟨rfl, trivial⟩ ?_
 refine G [11, 3, 9] ?_
 by_cases hin : i = n
 ·subst hin
  refine G [5, 4, 2] ?_
  rw [qaN (by omega : L.length ≤ i * 5), qbe (by omega : L.length ≤ i * 5), qaV]
  refine G [4] ?_
  refine zab (zaq (cs := L) (ys := pkC x) 25 U22 eo48 (zfO (cs := (pkC x).map AV.p) rfl (qaA rfl) rfl) qy qk rfl rfl) rfl rfl ⟨rfl, rfl, rfl, trivial⟩ ?_
  exact jcG
 have hlt : i < n := qk
 refine G [5, 3, 2] ?_
 refine awp_openR 0 rfl fun c hc1 hc2 => ?_
 have hXl : ((pkC x).map AV.p).length = 5 := rfl
 have hDl : ((L.drop (i * 5)).map AV.p).length = (n - i) * 5 := by rw [qaR, qaP, hL, ← Nat.sub_mul]
 by_cases hcc : c < n + 1
 ·refine G [8] ?_
  refine jdZ (ziJ U22) ?_
  refine G [0, 4, 6] ?_
  refine zab (a_sliceC (h := i) (H := some (.i64, (i : Int))) U22 sz48 ⟨qk, qz⟩ qk) rfl rfl ⟨rfl, trivial⟩ ?_
  refine G [4] ?_
  refine zaa (zgf (c := ((n + 1 - i : Nat) : Int)) (by rw [qa6 _ (by omega)]; omega)) rfl rfl ?_
  refine zab (zgv (size := 5) (k := n + 1 - i) (q := n + 1) (zs := (L.take (i * 5)).map AV.p ++ List.replicate ((n + 1 - i) * 5) .any) 40 U22 U3 eo48 qk qk qk qk qy qk (by rw [List.map_take]) qk) rfl rfl ⟨rfl, rfl, trivial⟩ ?_
  refine G [2] ?_
  have hMl : ((L.take (i * 5)).map AV.p ++ List.replicate ((n + 1 - i) * 5) AV.any).length = i * 5 + ((pkC x).map AV.p).length + ((L.drop (i * 5)).map AV.p).length := by
   rw [hXl, hDl, qaC, qaR, List.length_take, List.length_replicate]
   omega
  have hset := setR2a hMl
  have hT0 : ((L.take (i * 5)).map AV.p ++ List.replicate ((n + 1 - i) * 5) AV.any).take (i * 5) = (L.take (i * 5)).map AV.p := by
   exact jb1
  rw [hT0, ← qa4, ← qa4] at hset
  generalize hM : (L.take (i * 5)).map AV.p ++ List.replicate ((n + 1 - i) * 5) AV.any = M at *
  refine G [4] ?_
  refine zab (zbg (L := (some (_, _))) (H := none) U22 sz48 ⟨qk, rfl⟩ rfl qk qk rfl rfl) rfl rfl ⟨rfl, trivial⟩ ?_
  refine jdY (zaI (r := .psl _ _ _ _)) ?_
  refine zab (zdp (q := 1) (size := 5) (ys := pkC x) U22 sz48 (srcQ (zfO (cs := (pkC x).map AV.p) rfl (qaA rfl) rfl)) qk qk qk rfl) rfl rfl ⟨rfl, rfl, trivial⟩ ?_
  refine G [7] ?_
  refine zab (zbg (L := (some (_, _))) (H := none) U22 sz48 ⟨qk, rfl⟩ rfl qk qk rfl rfl) rfl rfl ⟨rfl, trivial⟩ ?_
  refine G [2] ?_
  refine zab (zbg (L := (some (_, _))) (H := none) U22 sz48 ⟨qk, rfl⟩ rfl qk qk rfl rfl) rfl rfl ⟨rfl, trivial⟩ ?_
  refine zab (zdp (q := n - i) (size := 5) (ys := L.drop (i * 5)) U22 sz48 (zfe qk qag qU) qk qk (by rw [zbw (by rw [hXl]; omega)]; omega) (es := setR (setR M (i * 5) ((pkC x).map AV.p)) (i * 5 + ((pkC x).map AV.p).length) ((L.drop (i * 5)).map AV.p)) qam) rfl rfl ⟨rfl, rfl, trivial⟩ ?_
  refine G [6] ?_
  refine zbd (zcU 40 (cs := L.take (i * 5) ++ pkC x ++ L.drop (i * 5)) qav) ?_
  refine zaB (zbs (yT (fun _ => 40) ?_ ?_))
  ·exact rfl
  ·exact ⟨⟨rfl, rfl⟩, trivial⟩
 ·refine G [8] ?_
  refine jdZ (ziJ U22) ?_
  refine G [0, 3, 9] ?_
  refine zab (a_sliceUp (o' := 60) (h := n + 1) (H := some (.i64, ((n + 1 : Nat) : Int))) (zs := L.map AV.p ++ List.replicate (1 * 5) .any) U22 sz48 ⟨qk, qz⟩ qk qk (by rw [show n + 1 - n = 1 by omega])) rfl rfl ⟨rfl, rfl, trivial⟩ ?_
  refine G [2] ?_
  have hMl : (L.map AV.p ++ List.replicate (1 * 5) AV.any).length = i * 5 + ((pkC x).map AV.p).length + ((L.drop (i * 5)).map AV.p).length := by
   rw [hXl, hDl, qaC, qaR, List.length_replicate]
   omega
  have hset := setR2b hMl
  have hT0 : (L.map AV.p ++ List.replicate (1 * 5) AV.any).take (i * 5) = (L.take (i * 5)).map AV.p := by
   rw [qa3 (by rw [qaR]; omega), List.map_take]
  have hD0 : ((L.map AV.p ++ List.replicate (1 * 5) AV.any).drop (i * 5)).take ((n - i) * 5) = (L.drop (i * 5)).map AV.p := by
   exact jbJ
  rw [hT0, ← qa4, ← qa4] at hset
  generalize hM : L.map AV.p ++ List.replicate (1 * 5) AV.any = M at *
  refine G [8] ?_
  refine zab (zbg (L := (some (_, _))) (H := none) U22 sz48 ⟨qk, rfl⟩ rfl qk qk rfl rfl) rfl rfl ⟨rfl, trivial⟩ ?_
  refine zab (zh5 (tR := 4) (size := 5) func191 qm rfl rfl qm U22 sz48 rfl qk qk qk) rfl rfl ⟨rfl, rfl, trivial⟩ ?_
  refine G [9] ?_
  refine zab (zbg (L := (some (_, _))) (H := none) U22 sz48 ⟨qk, rfl⟩ rfl qk qk rfl rfl) rfl rfl ⟨rfl, trivial⟩ ?_
  refine G [2] ?_
  refine zab (zbg (L := (some (_, _))) (H := none) U22 sz48 ⟨qk, rfl⟩ rfl qk qk rfl rfl) rfl rfl ⟨rfl, trivial⟩ ?_
  refine zab (zdp (q := n - i) (size := 5) (ys := L.drop (i * 5)) U22 sz48 (zfe qk qk hD0) qk qk qk (es := setR M (i * 5 + ((pkC x).map AV.p).length) ((L.drop (i * 5)).map AV.p)) qam) rfl rfl ⟨rfl, rfl, trivial⟩ ?_
  refine G [5] ?_
  refine zab (zbg (L := (some (_, _))) (H := none) U22 sz48 ⟨qk, rfl⟩ rfl qk qk rfl rfl) rfl rfl ⟨rfl, trivial⟩ ?_
  refine jdY (zaI (r := .psl _ _ _ _)) ?_
  refine zab (zdp (q := 1) (size := 5) (ys := pkC x) U22 sz48 (srcQ (zfO (cs := (pkC x).map AV.p) rfl (qaA rfl) rfl)) qk qk (by rw [zbw (by rw [hDl]; omega)]; omega) rfl) rfl rfl ⟨rfl, rfl, trivial⟩ ?_
  refine G [6] ?_
  refine zbd (zcU 60 (cs := L.take (i * 5) ++ pkC x ++ L.drop (i * 5)) qav) ?_
  refine zaB (zbs (yT (fun _ => 60) ?_ ?_))
  ·exact rfl
  ·exact ⟨⟨rfl, rfl⟩, trivial⟩
end Go.Proofs.YtlfjpippeeikdaaGreatDoor
