/- table.Find, over data. -/
import Derived.Test.YtgpleldhddpcgaaGreatDoorSTab2
import Derived.Test.YtgpleldhddpcgaaGreatDoorSMa3
namespace Go.Proofs.YtgpleldhddpcgaaGreatDoor
open Go.RowKit Go.Sort
set_option linter.unusedVariables false
set_option linter.unusedSimpArgs false
theorem flat_at {α : Type} {s : Nat} : ∀ {L : List (List α)} {k : Nat} {e : List α}, (∀ x ∈ L, x.length = s) → L[k]? = some e → (L.flatten.drop (k * s)).take s = e ∧ k * s + s ≤ L.flatten.length
 | [], k, e, _, h => by simp at h
 | x :: L, 0, e, hs, h => by
  simp only [List.getElem?_cons_zero, Option.some.injEq] at h
  subst h
  have hx := hs x (by simp)
  simp only [List.flatten_cons, Nat.zero_mul, List.drop_zero, Nat.zero_add, List.length_append]
  exact ⟨by rw [← hx]; exact List.take_left, by omega⟩
 | x :: L, k + 1, e, hs, h => by
  have hx := hs x (by simp)
  obtain ⟨h1, h2⟩ := flat_at (fun y hy => hs y (by simp [hy])) (by simpa using h : L[k]? = some e)
  have e1 : (k + 1) * s = x.length + k * s := by rw [hx, Nat.add_mul, Nat.one_mul, Nat.add_comm]
  rw [e1, List.flatten_cons, List.drop_length_add_append, List.length_append]
  exact ⟨h1, by omega⟩
abbrev Four := Int × Int × Int × Int
def Four.l5 (q : Four) : List Int := [0, q.1, q.2.1, q.2.2.1, q.2.2.2]
/-- the cells of a state and its four numbers -/
structure StP (e : List PV) (q : Four) : Prop where
 len : e.length = 41
 h5 : e[5]? = some (.v (.int .i64 q.1))
 h16 : e[16]? = some (.v (.int .i64 q.2.1))
 h27 : e[27]? = some (.v (.int .i64 q.2.2.1))
 h36 : e[36]? = some (.v (.int .i64 q.2.2.2))
end Go.Proofs.YtgpleldhddpcgaaGreatDoor
/- table.Most, the references of both, and the law TableSeeks, over data. -/
namespace Go.Proofs.YtgpleldhddpcgaaGreatDoor
open Go.RowKit Go.Sort
set_option linter.unusedVariables false
set_option linter.unusedSimpArgs false
def mx (n : Int) (xs : List Int) : Int := xs.foldl max n
def Four.l4 (q : Four) : List Int := [q.1, q.2.1, q.2.2.1, q.2.2.2]
def most (Q : List Four) : Int := Q.foldl (fun n q => mx n q.l5) 0
def iv (xs : List Int) : List AV := xs.map fun x => .p (.v (.int .i64 x))
theorem mx_take {n : Int} {xs : List Int} {j : Nat} (h : j < xs.length) : max (mx n (xs.take j)) xs[j] = mx n (xs.take (j + 1)) := by
 unfold mx
 rw [List.take_succ_eq_append_getElem h, List.foldl_append]; rfl
theorem most_take {Q : List Four} {k : Nat} {q : Four} (h : Q[k]? = some q) : mx (most (Q.take k)) q.l5 = most (Q.take (k + 1)) := by
 unfold most
 have hk := (List.getElem?_eq_some_iff.1 h)
 rw [List.take_succ_eq_append_getElem hk.1, List.foldl_append, hk.2]; rfl
theorem mx_ge (n : Int) (xs : List Int) : n ≤ mx n xs := by
 induction xs generalizing n with
 | nil => exact Int.le_refl _
 | cons x xs ih => exact Int.le_trans (by omega) (ih (max n x))
theorem most_nn (Q : List Four) : 0 ≤ most Q := by
 have : ∀ (Q : List Four) (n : Int), 0 ≤ n → 0 ≤ Q.foldl (fun n q => mx n q.l5) n := by
  intro Q
  induction Q with
  | nil => intro n h; exact h
  | cons q Q ih => intro n h; exact ih _ (Int.le_trans h (mx_ge _ _))
 exact this Q 0 (Int.le_refl _)
set_option maxRecDepth 100000 in
set_option maxHeartbeats 1000000 in
theorem most_s (L : List (List PV)) (Q : List Four) (N : Nat) (hL : L.length = N) (hQ : Q.length = N) (hm : N ≤ 9223372036854775807) (hst : ∀ (k : Nat) e q, L[k]? = some e → Q[k]? = some q → StP e q) :
    Fn Tryz.prog 37 [.p (.sl N 41 L.flatten)] (.p (.v (.int .i64 (most Q)))) [] := by
  have hlen : ∀ e ∈ L, e.length = 41 := by
    intro e he
    obtain ⟨k, hk, rfl⟩ := List.mem_iff_getElem.1 he
    exact (hst k _ (Q[k]'(by omega)) (List.getElem?_eq_getElem hk) (List.getElem?_eq_getElem (by omega))).len
  refine zap Tryz.func37 rfl (Nat.le_of_ble_eq_true rfl) fun w0 A => ?_
  refine zaa ?_
  refine zaw (by kernel_rfl) ?_
  (refine zac (zas (r := .p _)) rfl rfl ?_)
  refine zab ?_
  refine zaa ?_
  refine zaw (by kernel_rfl) ?_
  (refine zac (zas (r := .p _)) rfl rfl ?_)
  refine zab ?_
  refine zaa (zaa ?_)
  refine zaw (by kernel_rfl) ?_
  (refine zac (zaq (r := .p _)) rfl rfl ?_)
  (refine zac (zaC Tryz.underlying40) rfl rfl ?_)
  (refine zac (zaq (r := .p _)) rfl rfl ?_)
  refine zab ?_
  refine zaj ?_
  refine zaE (fun m st => ∃ k : Nat, m + k = N ∧ st = St.of [(3, .p (.v (.int .i64 (most (Q.take k))))), (8, .p (.sl N 41 L.flatten)), (9, .p (.v (.int .i64 N))), (10, .p (.v (.int .i64 k)))] []) N ?_ ?_
  · refine ⟨_, zaJ id _ _ ?_ ?_ rfl, 0, by omega, rfl⟩
    · (repeat (first | exact trivial | (refine ⟨⟨(by first | rfl | (simp; done) | (simp; omega)), rfl⟩, ?_⟩)))
    · exact trivial
  rintro m st ⟨k, hk, rfl⟩
  refine zaa ?_
  refine zaw (by kernel_rfl) ?_
  (refine zac zaX rfl rfl ?_)
  refine zab ?_
  refine zaa ?_
  refine zah _ rfl (fun h => ?_) (fun h => ?_)
  · have hlt : k < N := by simpa using h
    clear h
    obtain ⟨e, he⟩ : ∃ e, L[k]? = some e := ⟨L[k]'(by omega), List.getElem?_eq_getElem (by omega)⟩
    obtain ⟨q, hq⟩ : ∃ q, Q[k]? = some q := ⟨Q[k]'(by omega), List.getElem?_eq_getElem (by omega)⟩
    obtain ⟨g0, g5, g16, g27, g36⟩ := hst k e q he hq
    obtain ⟨f1, f2⟩ := flat_at hlen he
    have f3 : 41 ≤ (L.flatten.drop (k * 41)).length := by rw [List.length_drop]; omega
    have k5 : (e.map AV.p)[5]? = some (.p (.v (.int .i64 q.1))) := by simp [g5]
    have k16 : (e.map AV.p)[16]? = some (.p (.v (.int .i64 q.2.1))) := by simp [g16]
    have k27 : (e.map AV.p)[27]? = some (.p (.v (.int .i64 q.2.2.1))) := by simp [g27]
    have k36 : (e.map AV.p)[36]? = some (.p (.v (.int .i64 q.2.2.2))) := by simp [g36]
    refine zad (zaa (zaj (zaa ?_)))
    refine zaw (by kernel_rfl) ?_
    (refine zac (zao Tryz.underlying40 sz81 (by omega) (by omega) (by rw [Int.toNat_natCast])) rfl rfl ?_)
    (refine zac (zaz Tryz.underlying81 rfl sz81 f3 (f1)) rfl rfl ?_)
    (refine zal (zaU 5 zr81 rfl) rfl rfl ⟨rfl, trivial⟩ ?_)
    (refine zal (zaA (Y := .agg _) sz81 rfl (by first | exact Nat.eq_of_beq_eq_true rfl | (simp only [AV.cells, List.length_map]; first | assumption | omega)) (Nat.eq_of_beq_eq_true rfl)) rfl rfl ⟨rfl, trivial⟩ ?_)
    refine zab ?_
    refine zaa ?_
    refine zaw (by kernel_rfl) ?_
    (refine zal (zaL Tryz.underlying81 rfl sz81 (by first | exact Nat.le_of_ble_eq_true rfl | omega | (simp only [AV.cells, List.length_map]; omega)) (by first | exact zce (by first | assumption | exact Nat.eq_of_beq_eq_true rfl | (simp only [AV.cells, List.length_map]; first | assumption | omega)) | (simp only [List.take_succ_cons, List.take_zero, List.drop_succ_cons, List.drop_zero]; rfl) | rfl)) rfl rfl ⟨rfl, trivial⟩ ?_)
    (refine zeC (fun n => 15 + 1000 * n) (numbers_s _ _ _ _ _ k5 k16 k27 k36) rfl rfl Tryz.func80 rfl rfl (by first | rfl | simp [AV.okInL, AV.okIn, zaZ]) rfl rfl rfl (by first | exact trivial | exact ⟨rfl, trivial⟩ | exact ⟨rfl, rfl, trivial⟩ | exact ⟨rfl, rfl, rfl, rfl, rfl, trivial⟩) rfl rfl rfl ?_)
    (refine zac (zaq (r := .p _)) rfl rfl ?_)
    refine zab ?_
    refine zaj ?_
    refine zaE (fun m2 st => ∃ j : Nat, m2 + j = 5 ∧ st = St.of [(3, .p (.v (.int .i64 (mx (most (Q.take k)) (q.l5.take j))))), (8, .p (.sl N 41 L.flatten)), (9, .p (.v (.int .i64 N))), (10, .p (.v (.int .i64 k))), (15, .agg (iv q.l5)), (16, .p (.v (.int .i64 j)))] []) 5 ?_ ?_
    · refine ⟨_, zaJ id _ _ ?_ ?_ rfl, 0, by omega, rfl⟩
      · (repeat (first | exact trivial | (refine ⟨⟨(by first | rfl | (simp; done) | (simp; omega)), rfl⟩, ?_⟩)))
      · exact trivial
    rintro m2 st ⟨j, hj, rfl⟩
    refine zaa ?_
    refine zaw (by kernel_rfl) ?_
    (refine zac zaX rfl rfl ?_)
    refine zab ?_
    refine zaa ?_
    refine zah _ rfl (fun h => ?_) (fun h => ?_)
    · have hj5 : j < 5 := by have : (j : Int) < 5 := by simpa using h
                             omega
      clear h
      have hx5 : j < q.l5.length := hj5
      have hat : (iv q.l5)[j]? = some (.p (.v (.int .i64 q.l5[j]))) := by simp [iv, hx5]
      refine zad (zaa (zaj (zaa ?_)))
      refine zaw (by kernel_rfl) ?_
      (refine zac (ze9 Tryz.underlying126 sz3 Tryz.underlying3 rfl (by omega) (by omega) (by first | rfl | assumption | ((try simp only [Int.toNat_natCast, Nat.mul_one, Nat.add_zero, Nat.zero_add]); first | assumption | rfl))) rfl rfl ?_)
      (refine zac (zas (r := .p _)) rfl rfl ?_)
      refine zab ?_
      refine zae ?_
      refine zaw (by kernel_rfl) ?_
      (refine zac (zaq (r := .p _)) rfl rfl ?_)
      (refine zac (zaq (r := .p _)) rfl rfl ?_)
      (refine zac a_max rfl rfl ?_)
      (refine zac (zas (r := .p _)) rfl rfl ?_)
      refine zab ?_
      refine za3 (zae ?_)
      refine zaw (by kernel_rfl) ?_
      (refine zac (za4 (by first | exact IntWalk.i64_in _ (by omega) | rfl)) rfl rfl ?_)
      (refine zac (zaq (r := .p _)) rfl rfl ?_)
      refine zab ?_
      refine zae ?_
      refine ⟨m2 - 1, by omega, _, zaJ id _ _ ?_ ?_ rfl, j + 1, by omega, rfl⟩
      · rw [← mx_take hx5]
        (repeat (first | exact trivial | (refine ⟨⟨(by first | rfl | (simp; done) | (simp; omega)), rfl⟩, ?_⟩)))
      · exact trivial
    · have hj5 : ¬ j < 5 := by have : ¬ (j : Int) < 5 := by simpa using h
                               omega
      obtain rfl : j = 5 := by omega
      refine zaG (zb3 (zb3 (zdo (za3 (zae ?_)))))
      refine zaw (by kernel_rfl) ?_
      (refine zac (za4 (by first | exact IntWalk.i64_in _ (by omega) | rfl)) rfl rfl ?_)
      (refine zac (zaq (r := .p _)) rfl rfl ?_)
      refine zab ?_
      refine zae ?_
      refine ⟨m - 1, by omega, _, zaJ id _ _ ?_ ?_ rfl, k + 1, by omega, rfl⟩
      · rw [← most_take hq]
        (repeat (first | exact trivial | (refine ⟨⟨(by first | rfl | (simp; done) | (simp; omega)), rfl⟩, ?_⟩)))
      · exact trivial
  · have hge : ¬ k < N := by simpa using h
    refine zaG (zaa ?_)
    refine zaw (by kernel_rfl) ?_
    (refine zac (zaq (r := .p _)) rfl rfl ?_)
    (refine zac (zas (r := .p _)) rfl rfl ?_)
    refine zab ?_
    refine zaf ?_
    refine ⟨(by first | exact .inl rfl | exact .inr rfl), _, (fun o => o), (.tmp _ _ _ _ rfl .nil), ?_, rfl, ?_, rfl⟩
    · rw [List.take_of_length_le (show Q.length ≤ k by omega)]; first | done | (refine (?_ : _ = _); kernel_rfl)
    · exact trivial
end Go.Proofs.YtgpleldhddpcgaaGreatDoor
