/- table.Find, over data. -/
import Derived.Test.YtlfjpippeeikdaaGreatDoorSTc3
set_option linter.all false
namespace Go.Proofs.YtlfjpippeeikdaaGreatDoor
open Go.RowKit Go.Sort
set_option maxHeartbeats 16000000
theorem flat_at {α : Type} {s : Nat} : ∀ {L : List (List α)} {k : Nat} {e : List α}, (∀ x ∈ L, x.length = s) → L[k]? = some e → (L.flatten.drop (k * s)).take s = e ∧ k * s + s ≤ L.flatten.length
 | [], k, e, _, h => by simp at h
 | x :: L, 0, e, hs, h => by
  simp only [List.getElem?_cons_zero, Option.some.injEq] at h
  subst h
  have hx := hs x qz
  simp only [qbn, Nat.zero_mul, qbD, Nat.zero_add, qaC]
  exact ⟨by rw [← hx]; exact qbL, qk⟩
 | x :: L, k + 1, e, hs, h => by
  have hx := hs x qz
  obtain ⟨h1, h2⟩ := flat_at (fun y hy => hs y qaw) (by simpa using h : L[k]? = some e)
  have e1 : (k + 1) * s = x.length + k * s := by rw [hx, qbx, Nat.one_mul, Nat.add_comm]
  rw [e1, qbn, List.drop_length_add_append, qaC]
  exact ⟨h1, qk⟩
abbrev Four := Int × Int × Int × Int
def Four.l5 (q : Four) : List Int := [0, q.1, q.2.1, q.2.2.1, q.2.2.2]
structure StP (e : List PV) (q : Four) : Prop where
 len : e.length = 41
 h5 : e[5]? = some (.v (.int .i64 q.1))
 h16 : e[16]? = some (.v (.int .i64 q.2.1))
 h27 : e[27]? = some (.v (.int .i64 q.2.2.1))
 h36 : e[36]? = some (.v (.int .i64 q.2.2.2))
def mx (n : Int) (xs : List Int) : Int := xs.foldl max n
def Four.l4 (q : Four) : List Int := [q.1, q.2.1, q.2.2.1, q.2.2.2]
def most (Q : List Four) : Int := Q.foldl (fun n q => mx n q.l5) 0
def iv (xs : List Int) : List AV := xs.map fun x => .p (.v (.int .i64 x))
theorem mx_take {n : Int} {xs : List Int} {j : Nat} (h : j < xs.length) : max (mx n (xs.take j)) xs[j] = mx n (xs.take (j + 1)) := by
 unfold mx
 rw [qaM h, qbJ]; rfl
theorem most_take {Q : List Four} {k : Nat} {q : Four} (h : Q[k]? = some q) : mx (most (Q.take k)) q.l5 = most (Q.take (k + 1)) := by
 unfold most
 have hk := (qaG.1 h)
 rw [qaM hk.1, qbJ, hk.2]; rfl
theorem mx_ge (n : Int) (xs : List Int) : n ≤ mx n xs := by
 induction xs generalizing n with
 | nil => exact Int.le_refl _
 | cons x xs ih => exact Int.le_trans qk (ih (max n x))
theorem most_nn (Q : List Four) : 0 ≤ most Q := by
 have : ∀ (Q : List Four) (n : Int), 0 ≤ n → 0 ≤ Q.foldl (fun n q => mx n q.l5) n := by
  intro Q
  induction Q with
  | nil => intro n h; exact h
  | cons q Q ih => intro n h; exact ih _ (Int.le_trans h (mx_ge _ _))
 exact this Q 0 (Int.le_refl _)
set_option maxRecDepth 100000 in
theorem most_s (L : List (List PV)) (Q : List Four) (N : Nat) (hL : L.length = N) (hQ : Q.length = N) (hm : N ≤ 9223372036854775807) (hst : ∀ (k : Nat) e q, L[k]? = some e → Q[k]? = some q → StP e q) :
 Fn Tryz.prog 36 [.p (.sl N 41 L.flatten)] (.p (.v (.int .i64 (most Q)))) [] := by
 have hlen : ∀ e ∈ L, e.length = 41 := by
  intro e he
  obtain ⟨k, hk, rfl⟩ := qbs.1 he
  exact (hst k _ (Q[k]'qk) (List.getElem?_eq_getElem hk) (List.getElem?_eq_getElem qk)).len
 refine zcN Tryz.func36 rfl (qaA rfl) fun w0 A => ?_
 refine zan (zaA qm ?_)
 (refine zaa (zaQ (r := .p _)) rfl rfl ?_)
 refine zag (zan (zaA qm ?_))
 (refine zaa (zaQ (r := .p _)) rfl rfl ?_)
 refine zag (zan (zan (zaA qm ?_)))
 (refine zaa (zaI (r := .p _)) rfl rfl ?_)
 (refine zaa (zd7 Tryz.underlying26) rfl rfl ?_)
 (refine zaa (zaI (r := .p _)) rfl rfl ?_)
 refine zag (zax (zae (fun m st => ∃ k : Nat, m + k = N ∧ st = St.of [(3, .p (.v (.int .i64 (most (Q.take k))))), (8, .p (.sl N 41 L.flatten)), (9, .p (.v (.int .i64 N))), (10, .p (.v (.int .i64 k)))] []) N ?_ ?_))
 ·refine ⟨_, zad id _ _ ?_ ?_ rfl, 0, qk, rfl⟩
  ·(repeat (first | exact trivial | (refine ⟨⟨qu, rfl⟩, ?_⟩)))
  ·exact trivial
 rintro m st ⟨k, hk, rfl⟩
 refine zan (zaA qm ?_)
 (refine zaa a_lss rfl rfl ?_)
 refine zag (zan (zb2 _ rfl (fun h => ?_) (fun h => ?_)))
 ·have hlt : k < N := by simpa using h
  clear h
  obtain ⟨e, he⟩ : ∃ e, L[k]? = some e := ⟨L[k]'qk, List.getElem?_eq_getElem qk⟩
  obtain ⟨q, hq⟩ : ∃ q, Q[k]? = some q := ⟨Q[k]'qk, List.getElem?_eq_getElem qk⟩
  obtain ⟨g0, g5, g16, g27, g36⟩ := hst k e q he hq
  obtain ⟨f1, f2⟩ := flat_at hlen he
  have f3 : 41 ≤ (L.flatten.drop (k * 41)).length := by rw [qaP]; omega
  have k5 : (e.map AV.p)[5]? = some (.p (.v (.int .i64 q.1))) := by simp [g5]
  have k16 : (e.map AV.p)[16]? = some (.p (.v (.int .i64 q.2.1))) := by simp [g16]
  have k27 : (e.map AV.p)[27]? = some (.p (.v (.int .i64 q.2.2.1))) := by simp [g27]
  have k36 : (e.map AV.p)[36]? = some (.p (.v (.int .i64 q.2.2.2))) := by simp [g36]
  refine zay (zan (zax (zan (zaA qm ?_))))
  (refine zaa (za1 Tryz.underlying26 sz60 qk qk qaq) rfl rfl ?_)
  (refine zaa (zam Tryz.underlying60 rfl sz60 f3 (f1)) rfl rfl ?_)
  (refine zab (zaJ 5 zr60 rfl) rfl rfl ⟨rfl, trivial⟩ ?_)
  (refine zab (zac (Y := .agg _) sz60 rfl qD (qaB rfl)) rfl rfl ⟨rfl, trivial⟩ ?_)
  refine zag (zan (zaA qm ?_))
  (refine zab (zaf Tryz.underlying60 rfl sz60 qo qt) rfl rfl ⟨rfl, trivial⟩ ?_)
  (refine zaM (fun n => 15 + 1000 * n) (numbers_s _ _ _ _ _ k5 k16 k27 k36) rfl rfl Tryz.func70 rfl rfl qr rfl rfl rfl ql rfl rfl rfl ?_)
  (refine zaa (zaI (r := .p _)) rfl rfl ?_)
  refine zag (zax (zae (fun m2 st => ∃ j : Nat, m2 + j = 5 ∧ st = St.of [(3, .p (.v (.int .i64 (mx (most (Q.take k)) (q.l5.take j))))), (8, .p (.sl N 41 L.flatten)), (9, .p (.v (.int .i64 N))), (10, .p (.v (.int .i64 k))), (15, .agg (iv q.l5)), (16, .p (.v (.int .i64 j)))] []) 5 ?_ ?_))
  ·refine ⟨_, zad id _ _ ?_ ?_ rfl, 0, qk, rfl⟩
   ·(repeat (first | exact trivial | (refine ⟨⟨qu, rfl⟩, ?_⟩)))
   ·exact trivial
  rintro m2 st ⟨j, hj, rfl⟩
  refine zan (zaA qm ?_)
  (refine zaa a_lss rfl rfl ?_)
  refine zag (zan (zb2 _ rfl (fun h => ?_) (fun h => ?_)))
  ·have hj5 : j < 5 := by have : (j : Int) < 5 := by simpa using h
                          omega
   clear h
   have hx5 : j < q.l5.length := hj5
   have hat : (iv q.l5)[j]? = some (.p (.v (.int .i64 q.l5[j]))) := by simp [iv, hx5]
   refine zay (zan (zax (zan (zaA qm ?_))))
   (refine zaa (zfH Tryz.underlying114 sz3 Tryz.underlying3 rfl qk qk qO) rfl rfl ?_)
   (refine zaa (zaQ (r := .p _)) rfl rfl ?_)
   refine zag (zaE (zaA qm ?_))
   (refine zaa (zaI (r := .p _)) rfl rfl ?_)
   (refine zaa (zaI (r := .p _)) rfl rfl ?_)
   (refine zaa a_max rfl rfl ?_)
   (refine zaa (zaQ (r := .p _)) rfl rfl ?_)
   refine zag (zb6 (zaE (zaA qm ?_)))
   (refine zaa (zd8 qN) rfl rfl ?_)
   (refine zaa (zaI (r := .p _)) rfl rfl ?_)
   refine zag (zaE (⟨m2 - 1, qk, _, zad id _ _ ?_ ?_ rfl, j + 1, qk, rfl⟩))
   ·rw [← mx_take hx5]
    (repeat (first | exact trivial | (refine ⟨⟨qu, rfl⟩, ?_⟩)))
   ·exact trivial
  ·have hj5 : ¬ j < 5 := by have : ¬ (j : Int) < 5 := by simpa using h
                            omega
   obtain rfl : j = 5 := qk
   refine zaG (zbA (zbA (zb0 (zb6 (zaE (zaA qm ?_))))))
   (refine zaa (zd8 qN) rfl rfl ?_)
   (refine zaa (zaI (r := .p _)) rfl rfl ?_)
   refine zag (zaE (⟨m - 1, qk, _, zad id _ _ ?_ ?_ rfl, k + 1, qk, rfl⟩))
   ·rw [← most_take hq]
    (repeat (first | exact trivial | (refine ⟨⟨qu, rfl⟩, ?_⟩)))
   ·exact trivial
 ·have hge : ¬ k < N := by simpa using h
  refine zaG (zan (zaA qm ?_))
  (refine zaa (zaI (r := .p _)) rfl rfl ?_)
  (refine zaa (zaQ (r := .p _)) rfl rfl ?_)
  refine zag (zaB (⟨qI, _, (fun o => o), (.tmp _ _ _ _ rfl .nil), ?_, rfl, ?_, rfl⟩))
  ·rw [qaN (show Q.length ≤ k by omega)]; first | done | (refine (?_ : _ = _); kernel_rfl)
  ·exact trivial
set_option maxRecDepth 100000 in
theorem given6_s (X : List AV) (a b c d : Int) (h5 : X[5]? = some (.p (.v (.int .i64 a)))) (h16 : X[16]? = some (.p (.v (.int .i64 b)))) (h27 : X[27]? = some (.p (.v (.int .i64 c)))) (h36 : X[36]? = some (.p (.v (.int .i64 d)))) :
 Fn Tryz.prog 85 [.agg X] (.row 0) [(0, .row 3 1 4 (is [a, b, c, d]))] := by
 refine zcN Tryz.func85 rfl (qaA rfl) fun w0 A => ?_
 refine zan (zaA qm ?_)
 (refine zab (a_box (X := .agg _) 1 rfl) rfl rfl ⟨rfl, trivial⟩ ?_)
 (refine zaa (zaQ (r := .p _)) rfl rfl ?_)
 refine zag (zan (zaA qm ?_))
 (refine zaa (zar zer rfl) rfl rfl ?_)
 (refine zaa (zar fi55_0 rfl) rfl rfl ?_)
 (refine zaa (zar zhW rfl) rfl rfl ?_)
 (refine zab (zbq Tryz.underlying3 rfl qM) rfl rfl ⟨rfl, trivial⟩ ?_)
 (refine zaa (zar zer rfl) rfl rfl ?_)
 (refine zaa (zar fi55_1 rfl) rfl rfl ?_)
 (refine zaa (zar zhW rfl) rfl rfl ?_)
 (refine zab (zbq Tryz.underlying3 rfl qM) rfl rfl ⟨rfl, trivial⟩ ?_)
 (refine zaa (zar zer rfl) rfl rfl ?_)
 (refine zaa (zar fi55_2 rfl) rfl rfl ?_)
 (refine zaa (zar zhW rfl) rfl rfl ?_)
 (refine zab (zbq Tryz.underlying3 rfl qM) rfl rfl ⟨rfl, trivial⟩ ?_)
 (refine zaa (zar zhp rfl) rfl rfl ?_)
 (refine zaa (zar fi57_1 rfl) rfl rfl ?_)
 (refine zab (zbq Tryz.underlying3 rfl qM) rfl rfl ⟨rfl, trivial⟩ ?_)
 (refine zab (zai 18 Tryz.underlying112 sz3 zc3 (qaA rfl) (qaA rfl) rfl rfl rfl rfl (qaA rfl)) rfl rfl ⟨rfl, trivial⟩ ?_)
 (refine zaa (zaQ (r := .row _)) rfl rfl ?_)
 refine zag (zaB (⟨qI, _, (fun _ => 18), (.tmp _ _ _ _ rfl .nil), ?_, rfl, ?_, rfl⟩))
 ·rfl
 ·exact ⟨⟨rfl, rfl⟩, trivial⟩
theorem mx_l5 {n : Int} (hn : 0 ≤ n) (q : Four) : mx n q.l5 = mx n q.l4 := by
 show mx (max n 0) q.l4 = mx n q.l4
 rw [show max n 0 = n by omega]
set_option maxRecDepth 100000 in
theorem statesMost_s (L : List (List PV)) (Q : List Four) (N : Nat) (hL : L.length = N) (hQ : Q.length = N) (hm : N ≤ 9223372036854775807) (hst : ∀ (k : Nat) e q, L[k]? = some e → Q[k]? = some q → StP e q) :
 Fn Tryz.prog 49 [.p (.sl N 41 L.flatten)] (.p (.v (.int .i64 (most Q)))) [] := by
 have hlen : ∀ e ∈ L, e.length = 41 := by
  intro e he
  obtain ⟨k, hk, rfl⟩ := qbs.1 he
  exact (hst k _ (Q[k]'qk) (List.getElem?_eq_getElem hk) (List.getElem?_eq_getElem qk)).len
 refine zcN Tryz.func49 rfl (qaA rfl) fun w0 A => ?_
 refine zan (zaA qm ?_)
 (refine zaa (zaQ (r := .p _)) rfl rfl ?_)
 refine zag (zan (zaA qm ?_))
 (refine zaa (zaQ (r := .p _)) rfl rfl ?_)
 refine zag (zan (zan (zaA qm ?_)))
 (refine zaa (zaI (r := .p _)) rfl rfl ?_)
 (refine zaa (zd7 Tryz.underlying26) rfl rfl ?_)
 (refine zaa (zaI (r := .p _)) rfl rfl ?_)
 refine zag (zax (zae (fun m st => ∃ k : Nat, m + k = N ∧ st = St.of [(3, .p (.v (.int .i64 (most (Q.take k))))), (8, .p (.sl N 41 L.flatten)), (9, .p (.v (.int .i64 N))), (10, .p (.v (.int .i64 k)))] []) N ?_ ?_))
 ·refine ⟨_, zad id _ _ ?_ ?_ rfl, 0, qk, rfl⟩
  ·(repeat (first | exact trivial | (refine ⟨⟨qu, rfl⟩, ?_⟩)))
  ·exact trivial
 rintro m st ⟨k, hk, rfl⟩
 refine zan (zaA qm ?_)
 (refine zaa a_lss rfl rfl ?_)
 refine zag (zan (zb2 _ rfl (fun h => ?_) (fun h => ?_)))
 ·have hlt : k < N := by simpa using h
  clear h
  obtain ⟨e, he⟩ : ∃ e, L[k]? = some e := ⟨L[k]'qk, List.getElem?_eq_getElem qk⟩
  obtain ⟨q, hq⟩ : ∃ q, Q[k]? = some q := ⟨Q[k]'qk, List.getElem?_eq_getElem qk⟩
  obtain ⟨g0, g5, g16, g27, g36⟩ := hst k e q he hq
  obtain ⟨f1, f2⟩ := flat_at hlen he
  have f3 : 41 ≤ (L.flatten.drop (k * 41)).length := by rw [qaP]; omega
  have k5 : (e.map AV.p)[5]? = some (.p (.v (.int .i64 q.1))) := by simp [g5]
  have k16 : (e.map AV.p)[16]? = some (.p (.v (.int .i64 q.2.1))) := by simp [g16]
  have k27 : (e.map AV.p)[27]? = some (.p (.v (.int .i64 q.2.2.1))) := by simp [g27]
  have k36 : (e.map AV.p)[36]? = some (.p (.v (.int .i64 q.2.2.2))) := by simp [g36]
  refine zay (zan (zax (zan (zaA qm ?_))))
  (refine zaa (za1 Tryz.underlying26 sz60 qk qk qaq) rfl rfl ?_)
  (refine zaa (zam Tryz.underlying60 rfl sz60 f3 (f1)) rfl rfl ?_)
  (refine zab (zaJ 5 zr60 rfl) rfl rfl ⟨rfl, trivial⟩ ?_)
  (refine zab (zac (Y := .agg _) sz60 rfl qD (qaB rfl)) rfl rfl ⟨rfl, trivial⟩ ?_)
  refine zag (zan (zaA qm ?_))
  (refine zab (zaf Tryz.underlying60 rfl sz60 qo qt) rfl rfl ⟨rfl, trivial⟩ ?_)
  (refine zaM (fun n => 15 + 1000 * n) (given6_s _ _ _ _ _ k5 k16 k27 k36) rfl rfl Tryz.func85 rfl rfl qr rfl rfl rfl ql rfl rfl rfl ?_)
  (refine zab (a_lenR Tryz.underlying112) rfl rfl ⟨rfl, trivial⟩ ?_)
  (refine zaa (zaI (r := .p _)) rfl rfl ?_)
  refine zag (zax (zae (fun m2 st => ∃ j : Nat, m2 + j = 4 ∧ st = St.of [(3, .p (.v (.int .i64 (mx (most (Q.take k)) (q.l4.take j))))), (8, .p (.sl N 41 L.flatten)), (9, .p (.v (.int .i64 N))), (10, .p (.v (.int .i64 k))), (15, .row 15), (16, .p (.v (.int .i64 4))), (17, .p (.v (.int .i64 j)))] [(15, .row 3 1 4 (is q.l4))]) 4 ?_ ?_))
  ·refine ⟨_, zad id _ _ ?_ ?_ rfl, 0, qk, rfl⟩
   ·(repeat (first | exact trivial | (refine ⟨⟨qu, rfl⟩, ?_⟩)))
   ·exact ⟨⟨rfl, rfl⟩, trivial⟩
  rintro m2 st ⟨j, hj, rfl⟩
  refine zan (zaA qm ?_)
  (refine zaa a_lss rfl rfl ?_)
  refine zag (zan (zb2 _ rfl (fun h => ?_) (fun h => ?_)))
  ·have hj4 : j < 4 := by have : (j : Int) < 4 := by simpa using h
                          omega
   clear h
   have hx4 : j < q.l4.length := hj4
   have hat := is_at hx4
   refine zay (zan (zax (zan (zaA qm ?_))))
   (refine zab (zaw Tryz.underlying112 sz3 qk qk qv) rfl rfl ⟨rfl, trivial⟩ ?_)
   (refine zab (zbP Tryz.underlying3 rfl qq) rfl rfl ⟨rfl, trivial⟩ ?_)
   (refine zaa (zaQ (r := .p _)) rfl rfl ?_)
   refine zag (zan (zaA qm ?_))
   (refine zaa (zaI (r := .p _)) rfl rfl ?_)
   (refine zaa (zaI (r := .p _)) rfl rfl ?_)
   (refine zaa a_gtr rfl rfl ?_)
   refine zag (zaE (zb2 _ rfl (fun h => ?_) (fun h => ?_)))
   ·have h2 : mx (most (Q.take k)) (q.l4.take j) < q.l4[j] := by simpa using h
    have h3 := mx_take (n := most (Q.take k)) hx4
    rw [show max (mx (most (Q.take k)) (q.l4.take j)) q.l4[j] = q.l4[j] by omega] at h3
    skip
    refine zaA qm ?_
    (refine zaa (zaI (r := .p _)) rfl rfl ?_)
    (refine zaa (zaQ (r := .p _)) rfl rfl ?_)
    refine zag (zb6 (zaE (zaA qm ?_)))
    (refine zaa (zd8 qN) rfl rfl ?_)
    (refine zaa (zaI (r := .p _)) rfl rfl ?_)
    refine zag (zaE (⟨m2 - 1, qk, _, zad id _ _ ?_ ?_ rfl, j + 1, qk, rfl⟩))
    ·rw [← h3]
     (repeat (first | exact trivial | (refine ⟨⟨qu, rfl⟩, ?_⟩)))
    ·exact ⟨⟨rfl, rfl⟩, trivial⟩
   ·have h2 : ¬ mx (most (Q.take k)) (q.l4.take j) < q.l4[j] := by simpa using h
    have h3 := mx_take (n := most (Q.take k)) hx4
    rw [show max (mx (most (Q.take k)) (q.l4.take j)) q.l4[j] = mx (most (Q.take k)) (q.l4.take j) by omega] at h3
    refine zay (zb6 (zaE (zaA qm ?_)))
    (refine zaa (zd8 qN) rfl rfl ?_)
    (refine zaa (zaI (r := .p _)) rfl rfl ?_)
    refine zag (zaE (⟨m2 - 1, qk, _, zad id _ _ ?_ ?_ rfl, j + 1, qk, rfl⟩))
    ·rw [← h3]
     (repeat (first | exact trivial | (refine ⟨⟨qu, rfl⟩, ?_⟩)))
    ·exact ⟨⟨rfl, rfl⟩, trivial⟩
  ·have hj4 : ¬ j < 4 := by have : ¬ (j : Int) < 4 := by simpa using h
                            omega
   obtain rfl : j = 4 := qk
   refine zaG (zbA (zbA (zb0 (zb6 (zaE (zaA qm ?_))))))
   (refine zaa (zd8 qN) rfl rfl ?_)
   (refine zaa (zaI (r := .p _)) rfl rfl ?_)
   refine zag (zaE (⟨m - 1, qk, _, zad id _ _ ?_ ?_ rfl, k + 1, qk, rfl⟩))
   ·rw [← most_take hq, mx_l5 (most_nn _)]
    (repeat (first | exact trivial | (refine ⟨⟨qu, rfl⟩, ?_⟩)))
   ·exact trivial
 ·have hge : ¬ k < N := by simpa using h
  refine zaG (zan (zaA qm ?_))
  (refine zaa (zaI (r := .p _)) rfl rfl ?_)
  (refine zaa (zaQ (r := .p _)) rfl rfl ?_)
  refine zag (zaB (⟨qI, _, (fun o => o), (.tmp _ _ _ _ rfl .nil), ?_, rfl, ?_, rfl⟩))
  ·rw [qaN (show Q.length ≤ k by omega)]; first | done | (refine (?_ : _ = _); kernel_rfl)
  ·exact trivial
end Go.Proofs.YtlfjpippeeikdaaGreatDoor
